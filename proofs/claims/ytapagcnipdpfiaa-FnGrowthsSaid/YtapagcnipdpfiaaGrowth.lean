import Derived.Test.YtapagcnipdpfiaaProofs
/- Growths: the program and the reference. -/
set_option linter.unusedSimpArgs false
set_option linter.unusedVariables false
namespace Go.Proofs.Ytapagcnipdpfiaa
open Go Go.Vc
set_option maxRecDepth 10000
set_option maxHeartbeats 4000000
theorem c_spec_l09Growth (n : Nat) : ∀ (m : Nat) (w : Bool) (D : List UInt8) (c : Nat), D.length = 32 * n → n ≤ c → 1 ≤ m → m ≤ n → n ≤ 32768 → LC Try.prog 68 [.s 0 0 n c, .c (.int .i64 (m)), .c (.bool (w))] [⟨false, bs D⟩] (Ret [⟨false, bs D⟩] (fun _ : Nat => True) fun r => (.s 1 0 (gdepL n m w) (gdepL n m w + r), [⟨true, bs (growL n m w D) ++ List.replicate (32 * r) .j⟩])) := by
  refine Nat.strongRecOn n ?_
  clear n
  intro n ih m w D c hD hc hm hmn hn2
  refine LC_nil (G := fun o : Option Nat => o = none → gdepL n m w = 0) (S := fun o => match o with | some r => (.s 1 0 (gdepL n m w) (gdepL n m w + r), [⟨true, bs (growL n m w D) ++ List.replicate (32 * r) .j⟩]) | none => (.c (.slice none 0 0), [])) ?_ (fun o ho => ?_)
  rotate_left
  · cases o with
    | some r => exact ⟨r, trivial, by simp [nilV], [], by simp, by simp⟩
    | none =>
      have e := ho rfl
      have el : growL n m w D = [] := List.eq_nil_of_length_eq_zero (by rw [growL_len n m w D hD, e])
      exact ⟨0, trivial, by simp [nilV, e], _, by simp [el, bs_nil]; rfl, by simp⟩
  have key := c_spec_l09Root
  refine LC_of (X := XX (fun | 8 => .one 0 (.one 1 (.one 2 (.one 3 (.one 4 (.one 6 (.one 7 (.one 8 (.one 5 (.one 9 (.one 10 (.one 11 (.one 12 .nil)))))))))))) | 9 => .one 0 (.one 1 (.one 2 (.one 3 (.one 4 (.one 5 (.one 7 (.one 8 (.one 9 (.one 6 (.one 10 (.one 11 (.one 12 (.one 13 .nil))))))))))))) | _ => .nil) (fun _ => []) [25, 33, 34, 61, 62, 82, 87, 112, 119, 141] 1) envOK Try.func68 (by kernel_rfl) (by kernel_rfl) rfl (Nat.le_of_ble_eq_true (by kernel_rfl)) ?_
  simp only [kFun, Try.f68, List.length_nil, List.length_cons, Nat.sub_zero, Nat.reduceSub, Nat.reduceAdd, List.nil_append, List.cons_append, List.replicate_succ, List.replicate_zero]
  simp only [XX, ↓VC, VP, TT, List.getElem?_toArray, Nat.reduceEqDiff, reduceCtorEq, Nat.reduceAdd, Nat.reduceSub, Nat.reduceLT, Nat.reduceMul, Nat.reducePow, Nat.reduceLeDiff, Int.reduceToNat, Int.reduceLE, Int.reduceLT, Int.reducePow]
  refine ⟨fun h => ?_, fun h => ?_⟩
  · obtain rfl : m = n := by have := beq_iff_eq.1 h; omega
    refine ⟨fun hw => ?_, fun hw => ?_⟩
    · refine ⟨_, _, [0], ⟨none, fun _ => by rw [gdepL_all, hw]; rfl, rfl, rfl⟩, ?_⟩
      simp [-List.reduceReplicate, LES]
    · have tkA : List.take (m * 32) (bs D) = bs D := List.take_of_length_le (by rw [bs_length]; omega)
      have tkB : List.take (32 * m) (bs D) = bs D := List.take_of_length_le (by rw [bs_length]; omega)
      refine kCall_val (key m (D) (c) hD (by omega) (by omega)) (by rfl) [(0, 0)] (by simp [CALL]) (by simp [CALL, cellsAt, bs_length, hD, tkA, tkB]) (by simp [CALL]) (by simp [okL_bs]) ?_
      simp only [CALL, ↓VC, VP, TT, List.getElem?_toArray, Nat.reduceEqDiff, reduceCtorEq, Nat.reduceAdd, Nat.reduceSub, Nat.reduceLT, Nat.reduceMul, Nat.reducePow, Nat.reduceLeDiff, Int.reduceToNat, Int.reduceLE, Int.reduceLT, Int.reducePow, rootL_len hD, flatZ, Nat.mul_one, bs_length, List.length_replicate, Nat.le_refl, if_true, splice_bs, splB0 (show (rootL m D).length = (List.replicate 32 (0 : UInt8)).length by rw [rootL_len hD, List.length_replicate])]
      refine ⟨_, _, [0, 1], ⟨some 0, by simp, rfl, rfl⟩, ?_⟩
      dsimp only
      rw [gdepL_all, growL_all, hw]
      simp [-List.reduceReplicate, LES]
  · have hlt : m < n := by have := beq_eq_false_iff_ne.1 h; omega
    obtain ⟨p1, p2⟩ := partN_spec (n := n) (by omega)
    obtain ⟨hl1, hl2⟩ := halves_len (n := n) (by omega) hD
    refine kCall_val (c_spec_l09Half n (by omega)) (by rfl) [] (by simp [CALL]) (by simp [CALL, cellsAt]) (by simp [CALL]) (by simp [okL_bs]) ?_
    simp only [CALL, ↓VC, VP, TT, List.getElem?_toArray, Nat.reduceEqDiff, reduceCtorEq, Nat.reduceAdd, Nat.reduceSub, Nat.reduceLT, Nat.reduceMul, Nat.reducePow, Nat.reduceLeDiff, Int.reduceToNat, Int.reduceLE, Int.reduceLT, Int.reducePow]
    refine ⟨fun h1 => ?_, fun h1 => ?_⟩
    · have hle : m ≤ partN n := by omega
      repeat (refine ⟨by first | omega | (simp; done) | decide, ?_⟩)
      simp only [Nat.sub_zero]
      refine kCall_Ret (ih (partN n) p2 (m) w (D.take (32 * partN n)) (c) hl1 (by omega) (by omega) (by omega) (by omega)) (by rfl) [(0, 0)] (by simp [CALL]) (by simp [CALL, cellsAt, bs_take, bs_length, hl1]) (by simp [CALL]) (by simp [okL_bs]) (by simp [okL_bs]) fun r _ => ?_
      simp only [CALL, ↓VC, VP, TT, List.getElem?_toArray, Nat.reduceEqDiff, reduceCtorEq, Nat.reduceAdd, Nat.reduceSub, Nat.reduceLT, Nat.reduceMul, Nat.reducePow, Nat.reduceLeDiff, Int.reduceToNat, Int.reduceLE, Int.reduceLT, Int.reducePow, instL_room]
      repeat (refine ⟨by first | omega | (simp; done) | decide, ?_⟩)
      refine kCall_val (key (n - partN n) (D.drop (32 * partN n)) (c - partN n) hl2 (by omega) (by omega)) (by rfl) [(0, partN n * 32)] (by simp [CALL]) (by simp [CALL, cellsAt, bs_drop, bs_length, hl2, Nat.mul_comm, tkn hl2]) (by simp [CALL]) (by simp [okL_bs]) ?_
      simp only [CALL, ↓VC, VP, TT, List.getElem?_toArray, Nat.reduceEqDiff, reduceCtorEq, Nat.reduceAdd, Nat.reduceSub, Nat.reduceLT, Nat.reduceMul, Nat.reducePow, Nat.reduceLeDiff, Int.reduceToNat, Int.reduceLE, Int.reduceLT, Int.reducePow, rootL_len hl2, flatZ, Nat.mul_one, bs_length, List.length_replicate, Nat.le_refl, if_true, splice_bs, splB0 (show (rootL (n - partN n) (D.drop (32 * partN n))).length = (List.replicate 32 (0 : UInt8)).length by rw [rootL_len hl2, List.length_replicate])]
      have hpl := growL_len (partN n) m w _ hl1
      have hdl := gdepL_le (partN n) m w
      refine ⟨by omega, by omega, by omega, .inr (by omega), .inr trivial, fun r1 c1 e1 e2 => ?_⟩
      have ed := gdepL_lt (w := w) hm hlt hle
      have el := growL_lt (w := w) (D := D) hm hlt hle
      refine ⟨_, _, [0, 3], ⟨some (c1 - (gdepL (partN n) m w + 1)), by simp, rfl, rfl⟩, ?_⟩
      dsimp only
      rw [ed, el, show gdepL (partN n) m w + 1 + (c1 - (gdepL (partN n) m w + 1)) = c1 by omega, show 32 * (c1 - (gdepL (partN n) m w + 1)) = r1 by omega, take_room (by rw [hpl]; omega), bs_append]
      simp [-List.reduceReplicate, LES]
    · have hge : ¬ m ≤ partN n := by omega
      repeat (refine ⟨by first | omega | (simp; done) | decide, ?_⟩)
      rw [wrap_i64 (by omega) (by omega), show (m : Int) - (partN n : Nat) = ((m - partN n : Nat) : Int) by omega]
      refine kCall_Ret (ih (n - partN n) (by omega) (m - partN n) false (D.drop (32 * partN n)) (c - partN n) hl2 (by omega) (by omega) (by omega) (by omega)) (by rfl) [(0, partN n * 32)] (by simp [CALL]) (by simp [CALL, cellsAt, bs_drop, bs_length, hl2, Nat.mul_comm, tkn hl2]) (by simp [CALL]) (by simp [okL_bs]) (by simp [okL_bs]) fun r _ => ?_
      simp only [CALL, ↓VC, VP, TT, List.getElem?_toArray, Nat.reduceEqDiff, reduceCtorEq, Nat.reduceAdd, Nat.reduceSub, Nat.reduceLT, Nat.reduceMul, Nat.reducePow, Nat.reduceLeDiff, Int.reduceToNat, Int.reduceLE, Int.reduceLT, Int.reducePow, instL_room]
      repeat (refine ⟨by first | omega | (simp; done) | decide, ?_⟩)
      simp only [Nat.sub_zero]
      refine kCall_val (key (partN n) (D.take (32 * partN n)) (c) hl1 (by omega) (by omega)) (by rfl) [(0, 0)] (by simp [CALL]) (by simp [CALL, cellsAt, bs_take, bs_length, hl1]) (by simp [CALL]) (by simp [okL_bs]) ?_
      simp only [CALL, ↓VC, VP, TT, List.getElem?_toArray, Nat.reduceEqDiff, reduceCtorEq, Nat.reduceAdd, Nat.reduceSub, Nat.reduceLT, Nat.reduceMul, Nat.reducePow, Nat.reduceLeDiff, Int.reduceToNat, Int.reduceLE, Int.reduceLT, Int.reducePow, rootL_len hl1, flatZ, Nat.mul_one, bs_length, List.length_replicate, Nat.le_refl, if_true, splice_bs, splB0 (show (rootL (partN n) (D.take (32 * partN n))).length = (List.replicate 32 (0 : UInt8)).length by rw [rootL_len hl1, List.length_replicate])]
      have hpl := growL_len (n - partN n) (m - partN n) false _ hl2
      have hdl := gdepL_le (n - partN n) (m - partN n) false
      refine ⟨by omega, by omega, by omega, .inr (by omega), .inr trivial, fun r1 c1 e1 e2 => ?_⟩
      have ed := gdepL_ge (w := w) hm hlt hge
      have el := growL_ge (w := w) (D := D) hm hlt hge
      refine ⟨_, _, [0, 3], ⟨some (c1 - (gdepL (n - partN n) (m - partN n) false + 1)), by simp, rfl, rfl⟩, ?_⟩
      dsimp only
      rw [ed, el, show gdepL (n - partN n) (m - partN n) false + 1 + (c1 - (gdepL (n - partN n) (m - partN n) false + 1)) = c1 by omega, show 32 * (c1 - (gdepL (n - partN n) (m - partN n) false + 1)) = r1 by omega, take_room (by rw [hpl]; omega), bs_append]
      simp [-List.reduceReplicate, LES]
theorem c_hasher_growth (n : Nat) : ∀ (m : Nat) (w : Bool) (D : List UInt8) (c : Nat), D.length = 32 * n → n ≤ c → 1 ≤ m → m ≤ n → n ≤ 32768 → LC Try.prog 66 [.a [.p 0 0], .s 3 0 n c, .c (.int .i64 (m)), .c (.bool (w))] (hB false ++ [⟨false, bs D⟩]) (Ret (hB false ++ [⟨false, bs D⟩]) (fun _ : Nat => True) fun r => (.s 4 0 (gdepL n m w) (gdepL n m w + r), [⟨true, bs (growL n m w D) ++ List.replicate (32 * r) .j⟩])) := by
  refine Nat.strongRecOn n ?_
  clear n
  intro n ih m w D c hD hc hm hmn hn2
  refine LC_nil (G := fun o : Option Nat => o = none → gdepL n m w = 0) (S := fun o => match o with | some r => (.s 4 0 (gdepL n m w) (gdepL n m w + r), [⟨true, bs (growL n m w D) ++ List.replicate (32 * r) .j⟩]) | none => (.c (.slice none 0 0), [])) ?_ (fun o ho => ?_)
  rotate_left
  · cases o with
    | some r => exact ⟨r, trivial, by simp [nilV], [], by simp, by simp⟩
    | none =>
      have e := ho rfl
      have el : growL n m w D = [] := List.eq_nil_of_length_eq_zero (by rw [growL_len n m w D hD, e])
      exact ⟨0, trivial, by simp [nilV, e], _, by simp [el, bs_nil]; rfl, by simp⟩
  have key := c_hasher_root
  unfold hB
  refine LC_of (X := XX (fun | 8 => .one 0 (.one 1 (.one 2 (.one 3 (.one 4 (.one 5 (.one 7 (.one 8 (.one 9 (.one 10 (.one 6 (.one 11 (.one 12 (.one 13 (.one 14 .nil)))))))))))))) | 9 => .one 0 (.one 1 (.one 2 (.one 3 (.one 4 (.one 5 (.one 6 (.one 8 (.one 9 (.one 10 (.one 11 (.one 7 (.one 12 (.one 13 (.one 14 (.one 15 .nil))))))))))))))) | _ => .nil) (fun _ => []) [25, 33, 34, 61, 62, 82, 87, 112, 119, 141] 4) envOK Try.func66 (by kernel_rfl) (by kernel_rfl) rfl (Nat.le_of_ble_eq_true (by kernel_rfl)) ?_
  simp only [kFun, Try.f66, List.length_nil, List.length_cons, Nat.sub_zero, Nat.reduceSub, Nat.reduceAdd, List.nil_append, List.cons_append, List.replicate_succ, List.replicate_zero]
  simp only [XX, ↓VC, VP, TT, List.getElem?_toArray, Nat.reduceEqDiff, reduceCtorEq, Nat.reduceAdd, Nat.reduceSub, Nat.reduceLT, Nat.reduceMul, Nat.reducePow, Nat.reduceLeDiff, Int.reduceToNat, Int.reduceLE, Int.reduceLT, Int.reducePow]
  refine kGd_split rfl (fun h => ?_) (fun h => ?_) <;> simp only [↓VC, VP, TT, List.getElem?_toArray, Nat.reduceEqDiff, reduceCtorEq, Nat.reduceAdd, Nat.reduceSub, Nat.reduceLT, Nat.reduceMul, Nat.reducePow, Nat.reduceLeDiff, Int.reduceToNat, Int.reduceLE, Int.reduceLT, Int.reducePow, h]
  · obtain rfl : m = n := by have := beq_iff_eq.1 h; omega
    refine ⟨fun hw => ?_, fun hw => ?_⟩
    · refine ⟨_, _, [0, 1, 2, 3, 5], ⟨some 0, by simp, rfl, rfl⟩, ?_⟩
      dsimp only
      rw [gdepL_all, growL_all, hw]
      simp [-List.reduceReplicate, LES, bs_nil, renL_hEng, okL_hEng]
    · have tkA : List.take (m * 32) (bs D) = bs D := List.take_of_length_le (by rw [bs_length]; omega)
      have tkB : List.take (32 * m) (bs D) = bs D := List.take_of_length_le (by rw [bs_length]; omega)
      refine kCall_val (key m (D) (c) hD (by omega) (by omega)) (by rfl) [(0, 0), (1, 0), (2, 0), (3, 0)] (by simp [CALL]) (by simp [CALL, hB, cellsAt, bs_length, hD, tkA, tkB, instL_hEng, hEng_take, tk]) (by simp [CALL, hB]) (by simp [hB, okL_bs, okL_hEng]) ?_
      simp only [CALL, ↓VC, VP, TT, List.getElem?_toArray, Nat.reduceEqDiff, reduceCtorEq, Nat.reduceAdd, Nat.reduceSub, Nat.reduceLT, Nat.reduceMul, Nat.reducePow, Nat.reduceLeDiff, Int.reduceToNat, Int.reduceLE, Int.reduceLT, Int.reducePow, rootL_len hD, flatZ, Nat.mul_one, bs_length, List.length_replicate, Nat.le_refl, if_true, splice_bs, splB0 (show (rootL m D).length = (List.replicate 32 (0 : UInt8)).length by rw [rootL_len hD, List.length_replicate])]
      refine ⟨_, _, [0, 1, 2, 3, 5], ⟨some 0, by simp, rfl, rfl⟩, ?_⟩
      dsimp only
      rw [gdepL_all, growL_all, hw]
      simp [-List.reduceReplicate, LES, renL_hEng, okL_hEng]
  · have hlt : m < n := by have := beq_eq_false_iff_ne.1 h; omega
    obtain ⟨p1, p2⟩ := partN_spec (n := n) (by omega)
    obtain ⟨hl1, hl2⟩ := halves_len (n := n) (by omega) hD
    refine kCall_val (c_impl_part n (by omega)) (by rfl) [] (by simp [CALL]) (by simp [CALL, cellsAt]) (by simp [CALL]) (by simp [okL_bs]) ?_
    simp only [CALL, ↓VC, VP, TT, List.getElem?_toArray, Nat.reduceEqDiff, reduceCtorEq, Nat.reduceAdd, Nat.reduceSub, Nat.reduceLT, Nat.reduceMul, Nat.reducePow, Nat.reduceLeDiff, Int.reduceToNat, Int.reduceLE, Int.reduceLT, Int.reducePow]
    refine ⟨fun h1 => ?_, fun h1 => ?_⟩
    · have hle : m ≤ partN n := by omega
      repeat (refine ⟨by first | omega | (simp; done) | decide, ?_⟩)
      simp only [Nat.sub_zero]
      refine kCall_Ret (ih (partN n) p2 (m) w (D.take (32 * partN n)) (c) hl1 (by omega) (by omega) (by omega) (by omega)) (by rfl) [(0, 0), (1, 0), (2, 0), (3, 0)] (by simp [CALL]) (by simp [CALL, hB, cellsAt, bs_take, bs_length, hl1, instL_hEng, hEng_take, tk]) (by simp [CALL, hB]) (by simp [hB, okL_bs, okL_hEng]) (by simp [okL_bs]) fun r _ => ?_
      simp only [CALL, ↓VC, VP, TT, List.getElem?_toArray, Nat.reduceEqDiff, reduceCtorEq, Nat.reduceAdd, Nat.reduceSub, Nat.reduceLT, Nat.reduceMul, Nat.reducePow, Nat.reduceLeDiff, Int.reduceToNat, Int.reduceLE, Int.reduceLT, Int.reducePow, instL_room]
      repeat (refine ⟨by first | omega | (simp; done) | decide, ?_⟩)
      refine kCall_val (key (n - partN n) (D.drop (32 * partN n)) (c - partN n) hl2 (by omega) (by omega)) (by rfl) [(0, 0), (1, 0), (2, 0), (3, partN n * 32)] (by simp [CALL]) (by simp [CALL, hB, cellsAt, bs_drop, bs_length, hl2, Nat.mul_comm, tkn hl2, instL_hEng, hEng_take, tk]) (by simp [CALL, hB]) (by simp [hB, okL_bs, okL_hEng]) ?_
      simp only [CALL, ↓VC, VP, TT, List.getElem?_toArray, Nat.reduceEqDiff, reduceCtorEq, Nat.reduceAdd, Nat.reduceSub, Nat.reduceLT, Nat.reduceMul, Nat.reducePow, Nat.reduceLeDiff, Int.reduceToNat, Int.reduceLE, Int.reduceLT, Int.reducePow, rootL_len hl2, flatZ, Nat.mul_one, bs_length, List.length_replicate, Nat.le_refl, if_true, splice_bs, splB0 (show (rootL (n - partN n) (D.drop (32 * partN n))).length = (List.replicate 32 (0 : UInt8)).length by rw [rootL_len hl2, List.length_replicate])]
      have hpl := growL_len (partN n) m w _ hl1
      have hdl := gdepL_le (partN n) m w
      refine ⟨by omega, by omega, by omega, .inr (by omega), .inr trivial, fun r1 c1 e1 e2 => ?_⟩
      have ed := gdepL_lt (w := w) hm hlt hle
      have el := growL_lt (w := w) (D := D) hm hlt hle
      refine ⟨_, _, [0, 1, 2, 3, 7], ⟨some (c1 - (gdepL (partN n) m w + 1)), by simp, rfl, rfl⟩, ?_⟩
      dsimp only
      rw [ed, el, show gdepL (partN n) m w + 1 + (c1 - (gdepL (partN n) m w + 1)) = c1 by omega, show 32 * (c1 - (gdepL (partN n) m w + 1)) = r1 by omega, take_room (by rw [hpl]; omega), bs_append]
      simp [-List.reduceReplicate, LES, renL_hEng, okL_hEng]
    · have hge : ¬ m ≤ partN n := by omega
      repeat (refine ⟨by first | omega | (simp; done) | decide, ?_⟩)
      rw [wrap_i64 (by omega) (by omega), show (m : Int) - (partN n : Nat) = ((m - partN n : Nat) : Int) by omega]
      refine kCall_Ret (ih (n - partN n) (by omega) (m - partN n) false (D.drop (32 * partN n)) (c - partN n) hl2 (by omega) (by omega) (by omega) (by omega)) (by rfl) [(0, 0), (1, 0), (2, 0), (3, partN n * 32)] (by simp [CALL]) (by simp [CALL, hB, cellsAt, bs_drop, bs_length, hl2, Nat.mul_comm, tkn hl2, instL_hEng, hEng_take, tk]) (by simp [CALL, hB]) (by simp [hB, okL_bs, okL_hEng]) (by simp [okL_bs]) fun r _ => ?_
      simp only [CALL, ↓VC, VP, TT, List.getElem?_toArray, Nat.reduceEqDiff, reduceCtorEq, Nat.reduceAdd, Nat.reduceSub, Nat.reduceLT, Nat.reduceMul, Nat.reducePow, Nat.reduceLeDiff, Int.reduceToNat, Int.reduceLE, Int.reduceLT, Int.reducePow, instL_room]
      repeat (refine ⟨by first | omega | (simp; done) | decide, ?_⟩)
      simp only [Nat.sub_zero]
      refine kCall_val (key (partN n) (D.take (32 * partN n)) (c) hl1 (by omega) (by omega)) (by rfl) [(0, 0), (1, 0), (2, 0), (3, 0)] (by simp [CALL]) (by simp [CALL, hB, cellsAt, bs_take, bs_length, hl1, instL_hEng, hEng_take, tk]) (by simp [CALL, hB]) (by simp [hB, okL_bs, okL_hEng]) ?_
      simp only [CALL, ↓VC, VP, TT, List.getElem?_toArray, Nat.reduceEqDiff, reduceCtorEq, Nat.reduceAdd, Nat.reduceSub, Nat.reduceLT, Nat.reduceMul, Nat.reducePow, Nat.reduceLeDiff, Int.reduceToNat, Int.reduceLE, Int.reduceLT, Int.reducePow, rootL_len hl1, flatZ, Nat.mul_one, bs_length, List.length_replicate, Nat.le_refl, if_true, splice_bs, splB0 (show (rootL (partN n) (D.take (32 * partN n))).length = (List.replicate 32 (0 : UInt8)).length by rw [rootL_len hl1, List.length_replicate])]
      have hpl := growL_len (n - partN n) (m - partN n) false _ hl2
      have hdl := gdepL_le (n - partN n) (m - partN n) false
      refine ⟨by omega, by omega, by omega, .inr (by omega), .inr trivial, fun r1 c1 e1 e2 => ?_⟩
      have ed := gdepL_ge (w := w) hm hlt hge
      have el := growL_ge (w := w) (D := D) hm hlt hge
      refine ⟨_, _, [0, 1, 2, 3, 7], ⟨some (c1 - (gdepL (n - partN n) (m - partN n) false + 1)), by simp, rfl, rfl⟩, ?_⟩
      dsimp only
      rw [ed, el, show gdepL (n - partN n) (m - partN n) false + 1 + (c1 - (gdepL (n - partN n) (m - partN n) false + 1)) = c1 by omega, show 32 * (c1 - (gdepL (n - partN n) (m - partN n) false + 1)) = r1 by omega, take_room (by rw [hpl]; omega), bs_append]
      simp [-List.reduceReplicate, LES, renL_hEng, okL_hEng]
end Go.Proofs.Ytapagcnipdpfiaa
