import Derived.Test.YtledcckafhpgaaaIsProof
import Derived.Test.YtledcckafhpgaaaProofM
/- Proofs of places: the program and the reference. -/
set_option linter.unusedSimpArgs false
set_option linter.unusedVariables false
namespace Go.Proofs.Ytledcckafhpgaaa
open Go Go.Vc
set_option maxRecDepth 10000
set_option maxHeartbeats 4000000
theorem c_spec_l09Proof (n : Nat) : ∀ (i : Nat) (D : List UInt8) (c : Nat), D.length = 32 * n → n ≤ c → 1 ≤ n → n ≤ 32768 → i < n → LC Try.prog 31 [.s 0 0 n c, .c (.int .i64 (i))] [⟨false, bs D⟩] (Ret [⟨false, bs D⟩] (fun o : Option Nat => o = none → n = 1) fun o => match o with | some r => (.s 1 0 (depL n i) (depL n i + r), [⟨true, bs (proofL n i D) ++ List.replicate (32 * r) .j⟩]) | none => (.c (.slice none 0 0), [])) := by
  refine Nat.strongRecOn n ?_
  clear n
  intro n ih i D c hD hc hn hn2 hi
  have key := c_spec_l09Root
  refine LC_of (X := XX (fun | 5 => .one 0 (.one 1 (.one 2 (.one 3 (.one 5 (.one 6 (.one 7 (.one 4 (.one 8 (.one 9 (.one 10 (.one 11 .nil))))))))))) | 6 => .one 0 (.one 1 (.one 2 (.one 3 (.one 4 (.one 5 (.one 7 (.one 8 (.one 9 (.one 6 (.one 10 (.one 11 (.one 12 (.one 13 .nil))))))))))))) | _ => .nil) (fun _ => []) [22, 24, 25, 36, 42, 47, 90] 1) envOK Try.func31 (by kernel_rfl) (by kernel_rfl) rfl (Nat.le_of_ble_eq_true (by kernel_rfl)) ?_
  simp only [kFun, Try.f31, List.length_nil, List.length_cons, Nat.sub_zero, Nat.reduceSub, Nat.reduceAdd, List.nil_append, List.cons_append, List.replicate_succ, List.replicate_zero]
  simp only [XX, ↓VC, VP, TT, List.getElem?_toArray, Nat.reduceEqDiff, reduceCtorEq, Nat.reduceAdd, Nat.reduceSub, Nat.reduceLT, Nat.reduceMul, Nat.reducePow, Nat.reduceLeDiff, Int.reduceToNat, Int.reduceLE, Int.reduceLT, Int.reducePow]
  refine ⟨fun h => ?_, fun h => ?_⟩
  · obtain rfl : n = 1 := by have := beq_iff_eq.1 h; omega
    refine ⟨_, _, [0], ⟨none, fun _ => rfl, rfl, rfl⟩, ?_⟩
    simp [-List.reduceReplicate, LES]
  · have hn3 : 2 ≤ n := by have := beq_eq_false_iff_ne.1 h; omega
    obtain ⟨p1, p2⟩ := partN_spec hn3
    obtain ⟨hl1, hl2⟩ := halves_len hn3 hD
    refine kCall_val (c_spec_l09Half n (by omega)) (by rfl) [] (by simp [CALL]) (by simp [CALL, cellsAt]) (by simp [CALL]) (by simp [okL_bs]) ?_
    simp only [CALL, ↓VC, VP, TT, List.getElem?_toArray, Nat.reduceEqDiff, reduceCtorEq, Nat.reduceAdd, Nat.reduceSub, Nat.reduceLT, Nat.reduceMul, Nat.reducePow, Nat.reduceLeDiff, Int.reduceToNat, Int.reduceLE, Int.reduceLT, Int.reducePow]
    refine ⟨fun h1 => ?_, fun h1 => ?_⟩
    · have hlt : i < partN n := by omega
      repeat (refine ⟨by first | omega | (simp; done) | decide, ?_⟩)
      simp only [Nat.sub_zero]
      refine kCall_Ret (ih (partN n) p2 i (D.take (32 * partN n)) c hl1 (by omega) p1 (by omega) hlt) (by rfl) [(0, 0)] (by simp [CALL]) (by simp [CALL, cellsAt, bs_take, bs_length, hl1]) (by simp [CALL]) (by simp [okL_bs]) (by rintro (_ | r) <;> simp [okL_bs]) fun o ho => ?_
      cases o with
      | some r =>
        simp only [CALL, ↓VC, VP, TT, List.getElem?_toArray, Nat.reduceEqDiff, reduceCtorEq, Nat.reduceAdd, Nat.reduceSub, Nat.reduceLT, Nat.reduceMul, Nat.reducePow, Nat.reduceLeDiff, Int.reduceToNat, Int.reduceLE, Int.reduceLT, Int.reducePow, instL_room]
        repeat (refine ⟨by first | omega | (simp; done) | decide, ?_⟩)
        refine kCall_val (key (n - partN n) (D.drop (32 * partN n)) (c - partN n) hl2 (by omega) (by omega)) (by rfl) [(0, partN n * 32)] (by simp [CALL]) (by simp [CALL, cellsAt, bs_drop, bs_length, hl2, Nat.mul_comm, tkn hl2]) (by simp [CALL]) (by simp [okL_bs]) ?_
        simp only [CALL, ↓VC, VP, TT, List.getElem?_toArray, Nat.reduceEqDiff, reduceCtorEq, Nat.reduceAdd, Nat.reduceSub, Nat.reduceLT, Nat.reduceMul, Nat.reducePow, Nat.reduceLeDiff, Int.reduceToNat, Int.reduceLE, Int.reduceLT, Int.reducePow, rootL_len hl2, flatZ, Nat.mul_one, bs_length, List.length_replicate, Nat.le_refl, if_true, splice_bs, splB0 (show (rootL (n - partN n) (D.drop (32 * partN n))).length = (List.replicate 32 (0 : UInt8)).length by rw [rootL_len hl2, List.length_replicate])]
        have hpl := proofL_len (partN n) i _ hl1
        have hdl := depL_le (partN n) i
        refine ⟨by omega, by omega, by omega, .inr (by omega), .inr trivial, fun r1 c1 e1 e2 => ?_⟩
        refine ⟨_, _, [0, 3], ⟨some (c1 - (depL (partN n) i + 1)), by simp, rfl, rfl⟩, ?_⟩
        dsimp only
        rw [depL_lt hn3 hlt, proofL_lt hn3 hlt, show depL (partN n) i + 1 + (c1 - (depL (partN n) i + 1)) = c1 by omega, show 32 * (c1 - (depL (partN n) i + 1)) = r1 by omega, take_room (by rw [hpl]; omega), bs_append]
        simp [-List.reduceReplicate, LES]
      | none =>
        have hp1 := ho rfl
        simp only [CALL, ↓VC, VP, TT, List.getElem?_toArray, Nat.reduceEqDiff, reduceCtorEq, Nat.reduceAdd, Nat.reduceSub, Nat.reduceLT, Nat.reduceMul, Nat.reducePow, Nat.reduceLeDiff, Int.reduceToNat, Int.reduceLE, Int.reduceLT, Int.reducePow, instL_room]
        repeat (refine ⟨by first | omega | (simp; done) | decide, ?_⟩)
        refine kCall_val (key (n - partN n) (D.drop (32 * partN n)) (c - partN n) hl2 (by omega) (by omega)) (by rfl) [(0, partN n * 32)] (by simp [CALL]) (by simp [CALL, cellsAt, bs_drop, bs_length, hl2, Nat.mul_comm, tkn hl2]) (by simp [CALL]) (by simp [okL_bs]) ?_
        simp only [CALL, ↓VC, VP, TT, List.getElem?_toArray, Nat.reduceEqDiff, reduceCtorEq, Nat.reduceAdd, Nat.reduceSub, Nat.reduceLT, Nat.reduceMul, Nat.reducePow, Nat.reduceLeDiff, Int.reduceToNat, Int.reduceLE, Int.reduceLT, Int.reducePow, rootL_len hl2, flatZ, Nat.mul_one, bs_length, List.length_replicate, Nat.le_refl, if_true, splice_bs, splB0 (show (rootL (n - partN n) (D.drop (32 * partN n))).length = (List.replicate 32 (0 : UInt8)).length by rw [rootL_len hl2, List.length_replicate])]
        have hdep : depL (partN n) i = 0 := by rw [hp1]; exact depL_one i
        have hprf : ∀ X, proofL (partN n) i X = [] := fun X => by rw [hp1]; exact proofL_one i X
        refine ⟨.inl trivial, .inl trivial, .inr trivial, fun r1 c1 e1 e2 => ?_⟩
        refine ⟨_, _, [0, 2], ⟨some (c1 - 1), by simp, rfl, rfl⟩, ?_⟩
        dsimp only
        rw [depL_lt hn3 hlt, proofL_lt hn3 hlt, hdep, hprf, List.nil_append, show 0 + 1 + (c1 - 1) = c1 by omega, show 32 * (c1 - 1) = r1 by omega]
        simp [-List.reduceReplicate, LES]
    · have hge : ¬ i < partN n := by omega
      repeat (refine ⟨by first | omega | (simp; done) | decide, ?_⟩)
      rw [wrap_i64 (by omega) (by omega), show (i : Int) - (partN n : Nat) = ((i - partN n : Nat) : Int) by omega]
      refine kCall_Ret (ih (n - partN n) (by omega) (i - partN n) (D.drop (32 * partN n)) (c - partN n) hl2 (by omega) (by omega) (by omega) (by omega)) (by rfl) [(0, partN n * 32)] (by simp [CALL]) (by simp [CALL, cellsAt, bs_drop, bs_length, hl2, Nat.mul_comm, tkn hl2]) (by simp [CALL]) (by simp [okL_bs]) (by rintro (_ | r) <;> simp [okL_bs]) fun o ho => ?_
      cases o with
      | some r =>
        simp only [CALL, ↓VC, VP, TT, List.getElem?_toArray, Nat.reduceEqDiff, reduceCtorEq, Nat.reduceAdd, Nat.reduceSub, Nat.reduceLT, Nat.reduceMul, Nat.reducePow, Nat.reduceLeDiff, Int.reduceToNat, Int.reduceLE, Int.reduceLT, Int.reducePow, instL_room]
        repeat (refine ⟨by first | omega | (simp; done) | decide, ?_⟩)
        simp only [Nat.sub_zero]
        refine kCall_val (key (partN n) (D.take (32 * partN n)) c hl1 (by omega) (by omega)) (by rfl) [(0, 0)] (by simp [CALL]) (by simp [CALL, cellsAt, bs_take, bs_length, hl1]) (by simp [CALL]) (by simp [okL_bs]) ?_
        simp only [CALL, ↓VC, VP, TT, List.getElem?_toArray, Nat.reduceEqDiff, reduceCtorEq, Nat.reduceAdd, Nat.reduceSub, Nat.reduceLT, Nat.reduceMul, Nat.reducePow, Nat.reduceLeDiff, Int.reduceToNat, Int.reduceLE, Int.reduceLT, Int.reducePow, rootL_len hl1, flatZ, Nat.mul_one, bs_length, List.length_replicate, Nat.le_refl, if_true, splice_bs, splB0 (show (rootL (partN n) (D.take (32 * partN n))).length = (List.replicate 32 (0 : UInt8)).length by rw [rootL_len hl1, List.length_replicate])]
        have hpl := proofL_len (n - partN n) (i - partN n) _ hl2
        have hdl := depL_le (n - partN n) (i - partN n)
        refine ⟨by omega, by omega, by omega, .inr (by omega), .inr trivial, fun r1 c1 e1 e2 => ?_⟩
        refine ⟨_, _, [0, 3], ⟨some (c1 - (depL (n - partN n) (i - partN n) + 1)), by simp, rfl, rfl⟩, ?_⟩
        dsimp only
        rw [depL_ge hn3 hge, proofL_ge hn3 hge, show depL (n - partN n) (i - partN n) + 1 + (c1 - (depL (n - partN n) (i - partN n) + 1)) = c1 by omega, show 32 * (c1 - (depL (n - partN n) (i - partN n) + 1)) = r1 by omega, take_room (by rw [hpl]; omega), bs_append]
        simp [-List.reduceReplicate, LES]
      | none =>
        have hp1 := ho rfl
        simp only [CALL, ↓VC, VP, TT, List.getElem?_toArray, Nat.reduceEqDiff, reduceCtorEq, Nat.reduceAdd, Nat.reduceSub, Nat.reduceLT, Nat.reduceMul, Nat.reducePow, Nat.reduceLeDiff, Int.reduceToNat, Int.reduceLE, Int.reduceLT, Int.reducePow, instL_room]
        repeat (refine ⟨by first | omega | (simp; done) | decide, ?_⟩)
        simp only [Nat.sub_zero]
        refine kCall_val (key (partN n) (D.take (32 * partN n)) c hl1 (by omega) (by omega)) (by rfl) [(0, 0)] (by simp [CALL]) (by simp [CALL, cellsAt, bs_take, bs_length, hl1]) (by simp [CALL]) (by simp [okL_bs]) ?_
        simp only [CALL, ↓VC, VP, TT, List.getElem?_toArray, Nat.reduceEqDiff, reduceCtorEq, Nat.reduceAdd, Nat.reduceSub, Nat.reduceLT, Nat.reduceMul, Nat.reducePow, Nat.reduceLeDiff, Int.reduceToNat, Int.reduceLE, Int.reduceLT, Int.reducePow, rootL_len hl1, flatZ, Nat.mul_one, bs_length, List.length_replicate, Nat.le_refl, if_true, splice_bs, splB0 (show (rootL (partN n) (D.take (32 * partN n))).length = (List.replicate 32 (0 : UInt8)).length by rw [rootL_len hl1, List.length_replicate])]
        have hdep : depL (n - partN n) (i - partN n) = 0 := by rw [hp1]; exact depL_one _
        have hprf : ∀ X, proofL (n - partN n) (i - partN n) X = [] := fun X => by rw [hp1]; exact proofL_one _ X
        refine ⟨.inl trivial, .inl trivial, .inr trivial, fun r1 c1 e1 e2 => ?_⟩
        refine ⟨_, _, [0, 2], ⟨some (c1 - 1), by simp, rfl, rfl⟩, ?_⟩
        dsimp only
        rw [depL_ge hn3 hge, proofL_ge hn3 hge, hdep, hprf, List.nil_append, show 0 + 1 + (c1 - 1) = c1 by omega, show 32 * (c1 - 1) = r1 by omega]
        simp [-List.reduceReplicate, LES]
theorem c_hasher_proof (n : Nat) : ∀ (i : Nat) (D : List UInt8) (c : Nat), D.length = 32 * n → n ≤ c → 1 ≤ n → n ≤ 32768 → i < n → LC Try.prog 29 [.a [.p 0 0], .s 3 0 n c, .c (.int .i64 (i))] (hB false ++ [⟨false, bs D⟩]) (Ret (hB false ++ [⟨false, bs D⟩]) (fun _ : Nat => True) fun r => (.s 4 0 (depL n i) (depL n i + r), [⟨true, bs (proofL n i D) ++ List.replicate (32 * r) .j⟩])) := by
  refine Nat.strongRecOn n ?_
  clear n
  intro n ih i D c hD hc hn hn2 hi
  have key := c_hasher_root
  unfold hB
  refine LC_of (X := XX (fun | 5 => .one 0 (.one 1 (.one 2 (.one 3 (.one 4 (.one 6 (.one 7 (.one 8 (.one 9 (.one 5 (.one 10 (.one 11 (.one 12 (.one 13 .nil))))))))))))) | 6 => .one 0 (.one 1 (.one 2 (.one 3 (.one 4 (.one 5 (.one 6 (.one 8 (.one 9 (.one 10 (.one 11 (.one 7 (.one 12 (.one 13 (.one 14 (.one 15 .nil))))))))))))))) | _ => .nil) (fun _ => []) [22, 24, 25, 36, 42, 47, 90] 4) envOK Try.func29 (by kernel_rfl) (by kernel_rfl) rfl (Nat.le_of_ble_eq_true (by kernel_rfl)) ?_
  simp only [kFun, Try.f29, List.length_nil, List.length_cons, Nat.sub_zero, Nat.reduceSub, Nat.reduceAdd, List.nil_append, List.cons_append, List.replicate_succ, List.replicate_zero]
  simp only [XX, ↓VC, VP, TT, List.getElem?_toArray, Nat.reduceEqDiff, reduceCtorEq, Nat.reduceAdd, Nat.reduceSub, Nat.reduceLT, Nat.reduceMul, Nat.reducePow, Nat.reduceLeDiff, Int.reduceToNat, Int.reduceLE, Int.reduceLT, Int.reducePow]
  refine ⟨fun h => ?_, fun h => ?_⟩
  · obtain rfl : n = 1 := by have := beq_iff_eq.1 h; omega
    refine ⟨_, _, [0, 1, 2, 3, 5], ⟨0, trivial, rfl, rfl⟩, ?_⟩
    dsimp only
    rw [depL_one, proofL_one, bs_nil]
    simp [-List.reduceReplicate, LES, renL_hEng, okL_hEng]
  · have hn3 : 2 ≤ n := by have := beq_eq_false_iff_ne.1 h; omega
    obtain ⟨p1, p2⟩ := partN_spec hn3
    obtain ⟨hl1, hl2⟩ := halves_len hn3 hD
    refine kCall_val (c_impl_part n (by omega)) (by rfl) [] (by simp [CALL]) (by simp [CALL, cellsAt]) (by simp [CALL]) (by simp [okL_bs]) ?_
    simp only [CALL, ↓VC, VP, TT, List.getElem?_toArray, Nat.reduceEqDiff, reduceCtorEq, Nat.reduceAdd, Nat.reduceSub, Nat.reduceLT, Nat.reduceMul, Nat.reducePow, Nat.reduceLeDiff, Int.reduceToNat, Int.reduceLE, Int.reduceLT, Int.reducePow]
    refine ⟨fun h1 => ?_, fun h1 => ?_⟩
    · have hlt : i < partN n := by omega
      repeat (refine ⟨by first | omega | (simp; done) | decide, ?_⟩)
      simp only [Nat.sub_zero]
      refine kCall_Ret (ih (partN n) p2 i (D.take (32 * partN n)) c hl1 (by omega) p1 (by omega) hlt) (by rfl) [(0, 0), (1, 0), (2, 0), (3, 0)] (by simp [CALL]) (by simp [CALL, hB, cellsAt, bs_take, bs_length, hl1, instL_hEng, hEng_take, tk]) (by simp [CALL, hB]) (by simp [hB, okL_bs, okL_hEng]) (by simp [okL_bs]) fun r _ => ?_
      simp only [CALL, ↓VC, VP, TT, List.getElem?_toArray, Nat.reduceEqDiff, reduceCtorEq, Nat.reduceAdd, Nat.reduceSub, Nat.reduceLT, Nat.reduceMul, Nat.reducePow, Nat.reduceLeDiff, Int.reduceToNat, Int.reduceLE, Int.reduceLT, Int.reducePow, instL_room]
      repeat (refine ⟨by first | omega | (simp; done) | decide, ?_⟩)
      refine kCall_val (key (n - partN n) (D.drop (32 * partN n)) (c - partN n) hl2 (by omega) (by omega)) (by rfl) [(0, 0), (1, 0), (2, 0), (3, partN n * 32)] (by simp [CALL]) (by simp [CALL, hB, cellsAt, bs_drop, bs_length, hl2, Nat.mul_comm, tkn hl2, instL_hEng, hEng_take, tk]) (by simp [CALL, hB]) (by simp [hB, okL_bs, okL_hEng]) ?_
      simp only [CALL, ↓VC, VP, TT, List.getElem?_toArray, Nat.reduceEqDiff, reduceCtorEq, Nat.reduceAdd, Nat.reduceSub, Nat.reduceLT, Nat.reduceMul, Nat.reducePow, Nat.reduceLeDiff, Int.reduceToNat, Int.reduceLE, Int.reduceLT, Int.reducePow, rootL_len hl2, flatZ, Nat.mul_one, bs_length, List.length_replicate, Nat.le_refl, if_true, splice_bs, splB0 (show (rootL (n - partN n) (D.drop (32 * partN n))).length = (List.replicate 32 (0 : UInt8)).length by rw [rootL_len hl2, List.length_replicate])]
      have hpl := proofL_len (partN n) i _ hl1
      have hdl := depL_le (partN n) i
      refine ⟨by omega, by omega, by omega, .inr (by omega), .inr trivial, fun r1 c1 e1 e2 => ?_⟩
      refine ⟨_, _, [0, 1, 2, 3, 7], ⟨c1 - (depL (partN n) i + 1), trivial, rfl, rfl⟩, ?_⟩
      dsimp only
      rw [depL_lt hn3 hlt, proofL_lt hn3 hlt, show depL (partN n) i + 1 + (c1 - (depL (partN n) i + 1)) = c1 by omega, show 32 * (c1 - (depL (partN n) i + 1)) = r1 by omega, take_room (by rw [hpl]; omega), bs_append]
      simp [-List.reduceReplicate, LES, renL_hEng, okL_hEng]
    · have hge : ¬ i < partN n := by omega
      repeat (refine ⟨by first | omega | (simp; done) | decide, ?_⟩)
      rw [wrap_i64 (by omega) (by omega), show (i : Int) - (partN n : Nat) = ((i - partN n : Nat) : Int) by omega]
      refine kCall_Ret (ih (n - partN n) (by omega) (i - partN n) (D.drop (32 * partN n)) (c - partN n) hl2 (by omega) (by omega) (by omega) (by omega)) (by rfl) [(0, 0), (1, 0), (2, 0), (3, partN n * 32)] (by simp [CALL]) (by simp [CALL, hB, cellsAt, bs_drop, bs_length, hl2, Nat.mul_comm, tkn hl2, instL_hEng, hEng_take, tk]) (by simp [CALL, hB]) (by simp [hB, okL_bs, okL_hEng]) (by simp [okL_bs]) fun r _ => ?_
      simp only [CALL, ↓VC, VP, TT, List.getElem?_toArray, Nat.reduceEqDiff, reduceCtorEq, Nat.reduceAdd, Nat.reduceSub, Nat.reduceLT, Nat.reduceMul, Nat.reducePow, Nat.reduceLeDiff, Int.reduceToNat, Int.reduceLE, Int.reduceLT, Int.reducePow, instL_room]
      repeat (refine ⟨by first | omega | (simp; done) | decide, ?_⟩)
      simp only [Nat.sub_zero]
      refine kCall_val (key (partN n) (D.take (32 * partN n)) c hl1 (by omega) (by omega)) (by rfl) [(0, 0), (1, 0), (2, 0), (3, 0)] (by simp [CALL]) (by simp [CALL, hB, cellsAt, bs_take, bs_length, hl1, instL_hEng, hEng_take, tk]) (by simp [CALL, hB]) (by simp [hB, okL_bs, okL_hEng]) ?_
      simp only [CALL, ↓VC, VP, TT, List.getElem?_toArray, Nat.reduceEqDiff, reduceCtorEq, Nat.reduceAdd, Nat.reduceSub, Nat.reduceLT, Nat.reduceMul, Nat.reducePow, Nat.reduceLeDiff, Int.reduceToNat, Int.reduceLE, Int.reduceLT, Int.reducePow, rootL_len hl1, flatZ, Nat.mul_one, bs_length, List.length_replicate, Nat.le_refl, if_true, splice_bs, splB0 (show (rootL (partN n) (D.take (32 * partN n))).length = (List.replicate 32 (0 : UInt8)).length by rw [rootL_len hl1, List.length_replicate])]
      have hpl := proofL_len (n - partN n) (i - partN n) _ hl2
      have hdl := depL_le (n - partN n) (i - partN n)
      refine ⟨by omega, by omega, by omega, .inr (by omega), .inr trivial, fun r1 c1 e1 e2 => ?_⟩
      refine ⟨_, _, [0, 1, 2, 3, 7], ⟨c1 - (depL (n - partN n) (i - partN n) + 1), trivial, rfl, rfl⟩, ?_⟩
      dsimp only
      rw [depL_ge hn3 hge, proofL_ge hn3 hge, show depL (n - partN n) (i - partN n) + 1 + (c1 - (depL (n - partN n) (i - partN n) + 1)) = c1 by omega, show 32 * (c1 - (depL (n - partN n) (i - partN n) + 1)) = r1 by omega, take_room (by rw [hpl]; omega), bs_append]
      simp [-List.reduceReplicate, LES, renL_hEng, okL_hEng]
end Go.Proofs.Ytledcckafhpgaaa
