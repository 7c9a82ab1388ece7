import Derived.Test.YtledcckafhpgaaaShowM
/- Proofs of a leaf: the program and the reference. -/
set_option linter.unusedSimpArgs false
set_option linter.unusedVariables false
namespace Go.Proofs.Ytledcckafhpgaaa
open Go Go.Vc
set_option maxRecDepth 10000
set_option maxHeartbeats 4000000
theorem c_spec_l09Shown (d : List UInt8) (hd : d.length = 32) (m : Nat) : ∀ (i n : Nat) (P : List UInt8) (c : Nat), P.length = 32 * m → m ≤ c → m ≤ 1048576 → 1 ≤ n → n ≤ 1048576 → i < n → LC Try.prog 46 [.a (bs d), .c (.int .i64 (i)), .c (.int .i64 (n)), .s 0 0 m c] [⟨false, bs P⟩] (fun v hp => v = .t [.a (bs (showL d m i n P).1), .c (.bool ((showL d m i n P).2))] ∧ hp = [⟨false, bs P⟩]) := by
  refine Nat.strongRecOn m ?_
  clear m
  intro m ih i n P c hP hc hm hn hn2 hi
  refine LC_of (X := XX (fun | 5 => .one 0 (.one 1 (.one 2 (.one 3 (.one 4 (.one 5 (.one 6 (.one 7 (.one 8 (.one 9 (.one 10 (.one 11 (.one 12 (.one 13 (.one 14 (.one 15 (.one 16 .nil)))))))))))))))) | _ => .nil) (fun | 5 => [(13, 10)] | _ => []) [22, 24, 25, 36, 42, 47, 90] 1) envOK Try.func46 (by kernel_rfl) (by kernel_rfl) rfl (Nat.le_of_ble_eq_true (by kernel_rfl)) ?_
  simp only [kFun, Try.f46, List.length_nil, List.length_cons, Nat.sub_zero, Nat.reduceSub, Nat.reduceAdd, List.nil_append, List.cons_append, List.replicate_succ, List.replicate_zero]
  simp only [XX, ↓VC, VP, TT, List.getElem?_toArray, Nat.reduceEqDiff, reduceCtorEq, Nat.reduceAdd, Nat.reduceSub, Nat.reduceLT, Nat.reduceMul, Nat.reducePow, Nat.reduceLeDiff, Int.reduceToNat, Int.reduceLE, Int.reduceLT, Int.reducePow, hd]
  cases m with
  | zero =>
    refine ⟨fun h => ?_, fun h => ⟨fun _ => ?_, fun h0 => by simp at h0⟩⟩
    · obtain rfl : n = 1 := by have := beq_iff_eq.1 h; omega
      refine ⟨_, _, [0], ⟨rfl, rfl⟩, ?_⟩
      simp [-List.reduceReplicate, LES, showL]
    · have hn1 : ¬ n = 1 := by have := beq_eq_false_iff_ne.1 h; omega
      refine ⟨_, _, [0], ⟨rfl, rfl⟩, ?_⟩
      simp [-List.reduceReplicate, LES, showL, hn1]
  | succ m =>
    have hz : (((m + 1 : Nat) : Int) == 0) = false := by rw [beq_eq_false_iff_ne]; omega
    have w : IntKind.i64.wrap (((m + 1 : Nat) : Int) - 1) = ((m : Nat) : Int) := by rw [wrap_i64 (by omega) (by omega)]; omega
    refine ⟨fun h => ?_, fun h => ⟨fun h0 => absurd h0 (by rw [hz]; simp), fun _ => ?_⟩⟩
    · obtain rfl : n = 1 := by have := beq_iff_eq.1 h; omega
      refine ⟨_, _, [0], ⟨rfl, rfl⟩, ?_⟩
      simp [-List.reduceReplicate, LES, showL]; omega
    · have hn1 : ¬ n = 1 := by have := beq_eq_false_iff_ne.1 h; omega
      have hl : (dgA P m).length = 32 := dgA_len hP (by omega)
      have hr : (P.take (32 * m)).length = 32 * m := by rw [List.length_take]; omega
      obtain ⟨p1, p2⟩ := partN_spec (n := n) (by omega)
      have hs := fun i n => showL_len hd m i n (P.take (32 * m))
      have w2 : IntKind.i64.wrap (m : Int) = ((m : Nat) : Int) := wrap_i64 (by omega) (by omega)
      simp only [w, Int.toNat_natCast, dgA_eq]
      repeat (refine ⟨by first | omega | (simp; done) | decide, ?_⟩)
      refine kCall_val (c_spec_l09Half n (by omega)) (by rfl) [] (by simp [CALL]) (by simp [CALL, cellsAt]) (by simp [CALL]) (by simp [okL_bs]) ?_
      simp only [CALL, ↓VC, VP, TT, List.getElem?_toArray, Nat.reduceEqDiff, reduceCtorEq, Nat.reduceAdd, Nat.reduceSub, Nat.reduceLT, Nat.reduceMul, Nat.reducePow, Nat.reduceLeDiff, Int.reduceToNat, Int.reduceLE, Int.reduceLT, Int.reducePow, hl, hd, tk32 hd, tk32 hl, Nat.sub_zero, w, w2, Int.toNat_natCast, ge_iff_le, Nat.le_refl, true_and]
      repeat (refine ⟨by first | omega | (simp; done) | decide, ?_⟩)
      refine ⟨fun hi2 => ?_, fun hi2 => ?_⟩
      · refine kCall_val (ih m (by omega) i (partN n) (P.take (32 * m)) c hr (by omega) (by omega) (by omega) (by omega) (by omega)) (by rfl) [(0, 0)] (by simp [CALL]) (by simp [CALL, cellsAt, bs_take, bs_length, hr, Nat.sub_zero]) (by simp [CALL]) (by simp [okL_bs]) ?_
        simp only [CALL, ↓VC, VP, TT, List.getElem?_toArray, Nat.reduceEqDiff, reduceCtorEq, Nat.reduceAdd, Nat.reduceSub, Nat.reduceLT, Nat.reduceMul, Nat.reducePow, Nat.reduceLeDiff, Int.reduceToNat, Int.reduceLE, Int.reduceLT, Int.reducePow, hs, hl, tk32 hl, tk32 (hs _ _), ge_iff_le, Nat.le_refl, true_and]
        repeat (refine ⟨by first | omega | (simp; done) | decide, ?_⟩)
        refine kCall_val (c_spec_l09Node (showL d m i (partN n) (P.take (32 * m))).1 (dgA P m) (hs _ _) hl) (by rfl) [] (by simp [CALL]) (by simp [CALL, cellsAt]) (by simp [CALL]) (by simp [okL_bs]) ?_
        simp only [CALL, ↓VC, VP, TT, List.getElem?_toArray, Nat.reduceEqDiff, reduceCtorEq, Nat.reduceAdd, Nat.reduceSub, Nat.reduceLT, Nat.reduceMul, Nat.reducePow, Nat.reduceLeDiff, Int.reduceToNat, Int.reduceLE, Int.reduceLT, Int.reducePow, nodeL_len]
        refine ⟨_, _, [0], ⟨rfl, rfl⟩, ?_⟩
        simp [-List.reduceReplicate, LES, showL, hn1, (by omega : i < partN n)]
      · rw [wrap_i64 (by omega) (by omega), wrap_i64 (by omega) (by omega), show (i : Int) - (partN n : Nat) = ((i - partN n : Nat) : Int) by omega, show (n : Int) - (partN n : Nat) = ((n - partN n : Nat) : Int) by omega]
        refine kCall_val (ih m (by omega) (i - partN n) (n - partN n) (P.take (32 * m)) c hr (by omega) (by omega) (by omega) (by omega) (by omega)) (by rfl) [(0, 0)] (by simp [CALL]) (by simp [CALL, cellsAt, bs_take, bs_length, hr, Nat.sub_zero]) (by simp [CALL]) (by simp [okL_bs]) ?_
        simp only [CALL, ↓VC, VP, TT, List.getElem?_toArray, Nat.reduceEqDiff, reduceCtorEq, Nat.reduceAdd, Nat.reduceSub, Nat.reduceLT, Nat.reduceMul, Nat.reducePow, Nat.reduceLeDiff, Int.reduceToNat, Int.reduceLE, Int.reduceLT, Int.reducePow, hs, hl, tk32 hl, tk32 (hs _ _), ge_iff_le, Nat.le_refl, true_and]
        repeat (refine ⟨by first | omega | (simp; done) | decide, ?_⟩)
        refine kCall_val (c_spec_l09Node (dgA P m) (showL d m (i - partN n) (n - partN n) (P.take (32 * m))).1 hl (hs _ _)) (by rfl) [] (by simp [CALL]) (by simp [CALL, cellsAt]) (by simp [CALL]) (by simp [okL_bs]) ?_
        simp only [CALL, ↓VC, VP, TT, List.getElem?_toArray, Nat.reduceEqDiff, reduceCtorEq, Nat.reduceAdd, Nat.reduceSub, Nat.reduceLT, Nat.reduceMul, Nat.reducePow, Nat.reduceLeDiff, Int.reduceToNat, Int.reduceLE, Int.reduceLT, Int.reducePow, nodeL_len]
        have e : showL d (m + 1) i n P = (nodeL (dgA P m) (showL d m (i - partN n) (n - partN n) (P.take (32 * m))).1, (showL d m (i - partN n) (n - partN n) (P.take (32 * m))).2) := by rw [showL, if_neg hn1, if_neg (by omega)]
        refine ⟨_, _, [0], ⟨rfl, rfl⟩, ?_⟩
        rw [e]; simp [-List.reduceReplicate, LES]
theorem c_hasher_shows (d : List UInt8) (hd : d.length = 32) (m : Nat) : ∀ (i n : Nat) (P : List UInt8) (c : Nat), P.length = 32 * m → m ≤ c → m ≤ 1048576 → 1 ≤ n → n ≤ 1048576 → i < n → LC Try.prog 34 [.a [.p 0 0], .a (bs d), .c (.int .i64 (i)), .c (.int .i64 (n)), .s 3 0 m c] (hB false ++ [⟨false, bs P⟩]) (fun v hp => v = .t [.a (bs (showL d m i n P).1), .c (.bool ((showL d m i n P).2))] ∧ hp = hB false ++ [⟨false, bs P⟩]) := by
  refine Nat.strongRecOn m ?_
  clear m
  intro m ih i n P c hP hc hm hn hn2 hi
  unfold hB
  refine LC_of (X := XX (fun | 5 => .one 0 (.one 2 (.one 3 (.one 4 (.one 5 (.one 6 (.one 7 (.one 1 (.one 8 (.one 9 (.one 10 .nil)))))))))) | _ => .nil) (fun | 5 => [(8, 13)] | _ => []) [22, 24, 25, 36, 42, 47, 90] 4) envOK Try.func34 (by kernel_rfl) (by kernel_rfl) rfl (Nat.le_of_ble_eq_true (by kernel_rfl)) ?_
  simp only [kFun, Try.f34, List.length_nil, List.length_cons, Nat.sub_zero, Nat.reduceSub, Nat.reduceAdd, List.nil_append, List.cons_append, List.replicate_succ, List.replicate_zero]
  simp only [XX, ↓VC, VP, TT, List.getElem?_toArray, Nat.reduceEqDiff, reduceCtorEq, Nat.reduceAdd, Nat.reduceSub, Nat.reduceLT, Nat.reduceMul, Nat.reducePow, Nat.reduceLeDiff, Int.reduceToNat, Int.reduceLE, Int.reduceLT, Int.reducePow, hd]
  cases m with
  | zero =>
    refine ⟨fun h => ?_, fun h => ⟨fun _ => ?_, fun h0 => by simp at h0⟩⟩
    · obtain rfl : n = 1 := by have := beq_iff_eq.1 h; omega
      refine ⟨_, _, [0, 1, 2, 3], ⟨rfl, rfl⟩, ?_⟩
      simp [-List.reduceReplicate, LES, showL, renL_hEng, okL_hEng]
    · have hn1 : ¬ n = 1 := by have := beq_eq_false_iff_ne.1 h; omega
      refine ⟨_, _, [0, 1, 2, 3], ⟨rfl, rfl⟩, ?_⟩
      simp [-List.reduceReplicate, LES, showL, hn1, renL_hEng, okL_hEng]
  | succ m =>
    have hz : (((m + 1 : Nat) : Int) == 0) = false := by rw [beq_eq_false_iff_ne]; omega
    have w : IntKind.i64.wrap (((m + 1 : Nat) : Int) - 1) = ((m : Nat) : Int) := by rw [wrap_i64 (by omega) (by omega)]; omega
    refine ⟨fun h => ?_, fun h => ⟨fun h0 => absurd h0 (by rw [hz]; simp), fun _ => ?_⟩⟩
    · obtain rfl : n = 1 := by have := beq_iff_eq.1 h; omega
      refine ⟨_, _, [0, 1, 2, 3], ⟨rfl, rfl⟩, ?_⟩
      simp [-List.reduceReplicate, LES, showL, renL_hEng, okL_hEng]; omega
    · have hn1 : ¬ n = 1 := by have := beq_eq_false_iff_ne.1 h; omega
      have hl : (dgA P m).length = 32 := dgA_len hP (by omega)
      have hr : (P.take (32 * m)).length = 32 * m := by rw [List.length_take]; omega
      obtain ⟨p1, p2⟩ := partN_spec (n := n) (by omega)
      have hs := fun i n => showL_len hd m i n (P.take (32 * m))
      have w2 : IntKind.i64.wrap (m : Int) = ((m : Nat) : Int) := wrap_i64 (by omega) (by omega)
      simp only [w, Int.toNat_natCast, dgA_eq]
      repeat (refine ⟨by first | omega | (simp; done) | decide, ?_⟩)
      refine kCall_val (c_impl_part n (by omega)) (by rfl) [] (by simp [CALL]) (by simp [CALL, cellsAt]) (by simp [CALL]) (by simp [okL_bs]) ?_
      simp only [CALL, ↓VC, VP, TT, List.getElem?_toArray, Nat.reduceEqDiff, reduceCtorEq, Nat.reduceAdd, Nat.reduceSub, Nat.reduceLT, Nat.reduceMul, Nat.reducePow, Nat.reduceLeDiff, Int.reduceToNat, Int.reduceLE, Int.reduceLT, Int.reducePow, hl, hd, tk32 hd, tk32 hl, Nat.sub_zero, w, w2, Int.toNat_natCast, ge_iff_le, Nat.le_refl, true_and]
      repeat (refine ⟨by first | omega | (simp; done) | decide, ?_⟩)
      refine ⟨fun hi2 => ?_, fun hi2 => ?_⟩
      · refine kCall_val (ih m (by omega) i (partN n) (P.take (32 * m)) c hr (by omega) (by omega) (by omega) (by omega) (by omega)) (by rfl) [(0, 0), (1, 0), (2, 0), (3, 0)] (by simp [CALL]) (by simp [CALL, hB, cellsAt, bs_take, bs_length, hr, instL_hEng, hEng_take, tk]) (by simp [CALL, hB]) (by simp [hB, okL_bs, okL_hEng]) ?_
        simp only [CALL, ↓VC, VP, TT, List.getElem?_toArray, Nat.reduceEqDiff, reduceCtorEq, Nat.reduceAdd, Nat.reduceSub, Nat.reduceLT, Nat.reduceMul, Nat.reducePow, Nat.reduceLeDiff, Int.reduceToNat, Int.reduceLE, Int.reduceLT, Int.reducePow, hs, hl, tk32 hl, tk32 (hs _ _), ge_iff_le, Nat.le_refl, true_and]
        repeat (refine ⟨by first | omega | (simp; done) | decide, ?_⟩)
        refine kCall_val (c_hasher_node (showL d m i (partN n) (P.take (32 * m))).1 (dgA P m) (hs _ _) hl) (by rfl) [(0, 0), (1, 0), (2, 0)] (by simp [CALL]) (by simp [CALL, hB, cellsAt, instL_hEng, hEng_take, tk]) (by simp [CALL, hB]) (by simp [hB, okL_bs, okL_hEng]) ?_
        simp only [CALL, ↓VC, VP, TT, List.getElem?_toArray, Nat.reduceEqDiff, reduceCtorEq, Nat.reduceAdd, Nat.reduceSub, Nat.reduceLT, Nat.reduceMul, Nat.reducePow, Nat.reduceLeDiff, Int.reduceToNat, Int.reduceLE, Int.reduceLT, Int.reducePow, nodeL_len]
        refine ⟨_, _, [0, 1, 2, 3], ⟨rfl, rfl⟩, ?_⟩
        simp [-List.reduceReplicate, LES, showL, hn1, (by omega : i < partN n), renL_hEng, okL_hEng]
      · rw [wrap_i64 (by omega) (by omega), wrap_i64 (by omega) (by omega), show (i : Int) - (partN n : Nat) = ((i - partN n : Nat) : Int) by omega, show (n : Int) - (partN n : Nat) = ((n - partN n : Nat) : Int) by omega]
        refine kCall_val (ih m (by omega) (i - partN n) (n - partN n) (P.take (32 * m)) c hr (by omega) (by omega) (by omega) (by omega) (by omega)) (by rfl) [(0, 0), (1, 0), (2, 0), (3, 0)] (by simp [CALL]) (by simp [CALL, hB, cellsAt, bs_take, bs_length, hr, instL_hEng, hEng_take, tk]) (by simp [CALL, hB]) (by simp [hB, okL_bs, okL_hEng]) ?_
        simp only [CALL, ↓VC, VP, TT, List.getElem?_toArray, Nat.reduceEqDiff, reduceCtorEq, Nat.reduceAdd, Nat.reduceSub, Nat.reduceLT, Nat.reduceMul, Nat.reducePow, Nat.reduceLeDiff, Int.reduceToNat, Int.reduceLE, Int.reduceLT, Int.reducePow, hs, hl, tk32 hl, tk32 (hs _ _), ge_iff_le, Nat.le_refl, true_and]
        repeat (refine ⟨by first | omega | (simp; done) | decide, ?_⟩)
        refine kCall_val (c_hasher_node (dgA P m) (showL d m (i - partN n) (n - partN n) (P.take (32 * m))).1 hl (hs _ _)) (by rfl) [(0, 0), (1, 0), (2, 0)] (by simp [CALL]) (by simp [CALL, hB, cellsAt, instL_hEng, hEng_take, tk]) (by simp [CALL, hB]) (by simp [hB, okL_bs, okL_hEng]) ?_
        simp only [CALL, ↓VC, VP, TT, List.getElem?_toArray, Nat.reduceEqDiff, reduceCtorEq, Nat.reduceAdd, Nat.reduceSub, Nat.reduceLT, Nat.reduceMul, Nat.reducePow, Nat.reduceLeDiff, Int.reduceToNat, Int.reduceLE, Int.reduceLT, Int.reducePow, nodeL_len]
        have e : showL d (m + 1) i n P = (nodeL (dgA P m) (showL d m (i - partN n) (n - partN n) (P.take (32 * m))).1, (showL d m (i - partN n) (n - partN n) (P.take (32 * m))).2) := by rw [showL, if_neg hn1, if_neg (by omega)]
        refine ⟨_, _, [0, 1, 2, 3], ⟨rfl, rfl⟩, ?_⟩
        rw [e]; simp [-List.reduceReplicate, LES, renL_hEng, okL_hEng]
end Go.Proofs.Ytledcckafhpgaaa
