import Derived.Test.YtledcckafhpgaaaProofs
/- ProofOf: the program and the reference. -/
set_option linter.unusedSimpArgs false
set_option linter.unusedVariables false
namespace Go.Proofs.Ytledcckafhpgaaa
open Go Go.Vc
set_option maxRecDepth 10000
set_option maxHeartbeats 4000000
def okP (n : Nat) (i : Int) : Prop := n ≤ 64 ∧ 0 ≤ i ∧ i ≤ (n : Int) - 1
instance (n : Nat) (i : Int) : Decidable (okP n i) := by unfold okP; infer_instance
def pfE (n : Nat) (i : Int) : Nat := if okP n i then depL n i.toNat else 0
def pfL (n : Nat) (i : Int) (D : List UInt8) : List UInt8 := if okP n i then proofL n i.toNat D else []
def pfC (n : Nat) (i : Int) : Int := if okP n i then 0 else 2
theorem pf_no {n : Nat} {i : Int} {D : List UInt8} (h : ¬ okP n i) : pfE n i = 0 ∧ pfL n i D = [] ∧ pfC n i = 2 := by unfold pfE pfL pfC; rw [if_neg h, if_neg h, if_neg h]; exact ⟨rfl, rfl, rfl⟩
theorem pf_yes {n i : Nat} {D : List UInt8} (h : n ≤ 64) (hi : i < n) : pfE n (i : Int) = depL n i ∧ pfL n (i : Int) D = proofL n i D ∧ pfC n (i : Int) = 0 := by
  have : okP n (i : Int) := ⟨h, by omega, by omega⟩
  unfold pfE pfL pfC; rw [if_pos this, if_pos this, if_pos this, Int.toNat_natCast]; exact ⟨rfl, rfl, rfl⟩
def pfOut (n : Nat) (i : Int) (D : List UInt8) (o : Option Nat) : V × List Blk := match o with
  | some r => (.t [.s 1 0 (pfE n i) (pfE n i + r), .c (.int .i64 (pfC n i))], [⟨true, bs (pfL n i D) ++ List.replicate (32 * r) .j⟩])
  | none => (.t [.c (.slice none 0 0), .c (.int .i64 (pfC n i))], [])
theorem c_spec_ProofOf (n c : Nat) (i : Int) (D : List UInt8) (hD : D.length = 32 * n) (hc : n ≤ c) : LC Try.prog 7 [.s 0 0 n c, .c (.int .i64 (i))] [⟨false, bs D⟩] (Ret [⟨false, bs D⟩] (fun o : Option Nat => o = none → pfE n i = 0) (pfOut n i D)) := by
  have key := c_spec_l09Proof n
  refine LC_of (X := XX (fun _ => .nil) (fun _ => []) [22, 24, 25, 36, 42, 47, 90] 1) envOK Try.func7 (by kernel_rfl) (by kernel_rfl) rfl (Nat.le_of_ble_eq_true (by kernel_rfl)) ?_
  simp only [kFun, Try.f7, List.length_nil, List.length_cons, Nat.sub_zero, Nat.reduceSub, Nat.reduceAdd, List.nil_append, List.cons_append, List.replicate_succ, List.replicate_zero]
  simp only [XX, ↓VC, VP, TT, List.getElem?_toArray, Nat.reduceEqDiff, reduceCtorEq, Nat.reduceAdd, Nat.reduceSub, Nat.reduceLT, Nat.reduceMul, Nat.reducePow, Nat.reduceLeDiff, Int.reduceToNat, Int.reduceLE, Int.reduceLT, Int.reducePow]
  refine kGd_split rfl (fun h1 => ?_) (fun h1 => ?_) <;> simp only [↓VC, VP, TT, List.getElem?_toArray, Nat.reduceEqDiff, reduceCtorEq, Nat.reduceAdd, Nat.reduceSub, Nat.reduceLT, Nat.reduceMul, Nat.reducePow, Nat.reduceLeDiff, Int.reduceToNat, Int.reduceLE, Int.reduceLT, Int.reducePow, h1]
  · have h1' : 64 < n := by have := of_decide_eq_true h1; omega
    obtain ⟨e1, e2, e3⟩ := pf_no (n := n) (i := i) (D := D) (fun h => by have := h.1; omega)
    refine ⟨_, _, [0], ⟨none, fun _ => e1, rfl, rfl⟩, ?_⟩
    simp [-List.reduceReplicate, LES, pfOut, e3]
  · have h1' : n ≤ 64 := by have := of_decide_eq_false h1; omega
    rw [wrap_i64 (by omega) (by omega)]
    refine kCall_val (c_spec_l01In i 0 ((n : Int) - 1)) (by rfl) [] (by simp [CALL]) (by simp [CALL, cellsAt]) (by simp [CALL]) (by simp [okL_bs]) ?_
    simp only [CALL, ↓VC, VP, TT, List.getElem?_toArray, Nat.reduceEqDiff, reduceCtorEq, Nat.reduceAdd, Nat.reduceSub, Nat.reduceLT, Nat.reduceMul, Nat.reducePow, Nat.reduceLeDiff, Int.reduceToNat, Int.reduceLE, Int.reduceLT, Int.reducePow]
    refine ⟨fun h2 => ?_, fun h2 => ?_⟩
    · simp only [Bool.not_eq_true', decide_eq_false_iff_not] at h2
      obtain ⟨e1, e2, e3⟩ := pf_no (n := n) (i := i) (D := D) (fun h => h2 h.2)
      refine ⟨_, _, [0], ⟨none, fun _ => e1, rfl, rfl⟩, ?_⟩
      simp [-List.reduceReplicate, LES, pfOut, e3]
    simp only [Bool.not_eq_false', decide_eq_true_eq] at h2
    obtain ⟨i, rfl⟩ : ∃ k : Nat, i = k := ⟨i.toNat, by omega⟩
    obtain ⟨e1, e2, e3⟩ := pf_yes (n := n) (i := i) (D := D) h1' (by omega)
    refine kCall_Ret (key i D c hD hc (by omega) (by omega) (by omega)) (by rfl) [(0, 0)] (by simp [CALL]) (by simp [CALL, cellsAt, tk]) (by simp [CALL]) (by simp [okL_bs]) (by rintro (_ | r) <;> simp [okL_bs]) fun o ho => ?_
    cases o with
    | some r =>
      simp only [CALL, ↓VC, VP, TT, List.getElem?_toArray, Nat.reduceEqDiff, reduceCtorEq, Nat.reduceAdd, Nat.reduceSub, Nat.reduceLT, Nat.reduceMul, Nat.reducePow, Nat.reduceLeDiff, Int.reduceToNat, Int.reduceLE, Int.reduceLT, Int.reducePow, instL_room]
      refine ⟨_, _, [0, 1], ⟨some r, by simp, rfl, rfl⟩, ?_⟩
      simp [-List.reduceReplicate, LES, pfOut, e1, e2, e3]
    | none =>
      have hn1 := ho rfl
      simp only [CALL, ↓VC, VP, TT, List.getElem?_toArray, Nat.reduceEqDiff, reduceCtorEq, Nat.reduceAdd, Nat.reduceSub, Nat.reduceLT, Nat.reduceMul, Nat.reducePow, Nat.reduceLeDiff, Int.reduceToNat, Int.reduceLE, Int.reduceLT, Int.reducePow, instL_room]
      refine ⟨_, _, [0], ⟨none, fun _ => by rw [e1, hn1]; exact depL_one i, rfl, rfl⟩, ?_⟩
      simp [-List.reduceReplicate, LES, pfOut, e3]
theorem c_impl_lengthD (n c : Nat) (D : List UInt8) : LC Try.prog 27 [.s 0 0 n c] [⟨false, bs D⟩] (fun v hp => v = .c (.int .i64 ((n : Nat))) ∧ hp = [⟨false, bs D⟩]) := by
  refine LC_of (X := XX (fun _ => .nil) (fun _ => []) [22, 24, 25, 36, 42, 47, 90] 1) envOK Try.func27 (by kernel_rfl) (by kernel_rfl) rfl (Nat.le_of_ble_eq_true (by kernel_rfl)) ?_
  simp only [kFun, Try.f27, List.length_nil, List.length_cons, Nat.sub_zero, Nat.reduceSub, Nat.reduceAdd, List.nil_append, List.cons_append, List.replicate_succ, List.replicate_zero]
  simp only [XX, ↓VC, VP, TT, List.getElem?_toArray, Nat.reduceEqDiff, reduceCtorEq, Nat.reduceAdd, Nat.reduceSub, Nat.reduceLT, Nat.reduceMul, Nat.reducePow, Nat.reduceLeDiff, Int.reduceToNat, Int.reduceLE, Int.reduceLT, Int.reducePow]
  refine ⟨_, _, [0], ⟨rfl, rfl⟩, ?_⟩
  simp [-List.reduceReplicate, LES]
theorem c_impl_ProofOf (n c : Nat) (i : Int) (D : List UInt8) (hD : D.length = 32 * n) (hc : n ≤ c) : LC Try.prog 6 [.s 0 0 n c, .c (.int .i64 (i))] [⟨false, bs D⟩] (Ret [⟨false, bs D⟩] (fun o : Option Nat => o = none → pfE n i = 0) (pfOut n i D)) := by
  have key := c_hasher_proof n
  refine LC_of (X := XX (fun _ => .nil) (fun _ => []) [22, 24, 25, 36, 42, 47, 90] 1) envOK Try.func6 (by kernel_rfl) (by kernel_rfl) rfl (Nat.le_of_ble_eq_true (by kernel_rfl)) ?_
  simp only [kFun, Try.f6, List.length_nil, List.length_cons, Nat.sub_zero, Nat.reduceSub, Nat.reduceAdd, List.nil_append, List.cons_append, List.replicate_succ, List.replicate_zero]
  simp only [XX, ↓VC, VP, TT, List.getElem?_toArray, Nat.reduceEqDiff, reduceCtorEq, Nat.reduceAdd, Nat.reduceSub, Nat.reduceLT, Nat.reduceMul, Nat.reducePow, Nat.reduceLeDiff, Int.reduceToNat, Int.reduceLE, Int.reduceLT, Int.reducePow]
  refine kGd_split rfl (fun h1 => ?_) (fun h1 => ?_) <;> simp only [↓VC, VP, TT, List.getElem?_toArray, Nat.reduceEqDiff, reduceCtorEq, Nat.reduceAdd, Nat.reduceSub, Nat.reduceLT, Nat.reduceMul, Nat.reducePow, Nat.reduceLeDiff, Int.reduceToNat, Int.reduceLE, Int.reduceLT, Int.reducePow, h1]
  · have h1' : 64 < n := by have := of_decide_eq_true h1; omega
    obtain ⟨e1, e2, e3⟩ := pf_no (n := n) (i := i) (D := D) (fun h => by have := h.1; omega)
    refine ⟨_, _, [0], ⟨none, fun _ => e1, rfl, rfl⟩, ?_⟩
    simp [-List.reduceReplicate, LES, pfOut, e3]
  · have h1' : n ≤ 64 := by have := of_decide_eq_false h1; omega
    refine kCall_val (c_impl_lengthD n c D) (by rfl) [(0, 0)] (by simp [CALL]) (by simp [CALL, cellsAt, tk]) (by simp [CALL]) (by simp [okL_bs]) ?_
    simp only [CALL, ↓VC, VP, TT, List.getElem?_toArray, Nat.reduceEqDiff, reduceCtorEq, Nat.reduceAdd, Nat.reduceSub, Nat.reduceLT, Nat.reduceMul, Nat.reducePow, Nat.reduceLeDiff, Int.reduceToNat, Int.reduceLE, Int.reduceLT, Int.reducePow]
    rw [wrap_i64 (by omega) (by omega)]
    refine kCall_val (c_impl_inRange i 0 ((n : Int) - 1)) (by rfl) [] (by simp [CALL]) (by simp [CALL, cellsAt]) (by simp [CALL]) (by simp [okL_bs]) ?_
    simp only [CALL, ↓VC, VP, TT, List.getElem?_toArray, Nat.reduceEqDiff, reduceCtorEq, Nat.reduceAdd, Nat.reduceSub, Nat.reduceLT, Nat.reduceMul, Nat.reducePow, Nat.reduceLeDiff, Int.reduceToNat, Int.reduceLE, Int.reduceLT, Int.reducePow]
    refine ⟨fun h2 => ?_, fun h2 => ?_⟩
    · simp only [Bool.not_eq_true', decide_eq_false_iff_not] at h2
      obtain ⟨e1, e2, e3⟩ := pf_no (n := n) (i := i) (D := D) (fun h => h2 h.2)
      refine ⟨_, _, [0], ⟨none, fun _ => e1, rfl, rfl⟩, ?_⟩
      simp [-List.reduceReplicate, LES, pfOut, e3]
    simp only [Bool.not_eq_false', decide_eq_true_eq] at h2
    obtain ⟨i, rfl⟩ : ∃ k : Nat, i = k := ⟨i.toNat, by omega⟩
    obtain ⟨e1, e2, e3⟩ := pf_yes (n := n) (i := i) (D := D) h1' (by omega)
    refine kCall_Ret c_newHasher (by rfl) [] (by simp [CALL]) (by simp [CALL]) (by simp [CALL]) (by simp) (by simp [hB]) fun _ _ => ?_
    simp only [CALL, ↓VC, VP, TT, List.getElem?_toArray, Nat.reduceEqDiff, reduceCtorEq, Nat.reduceAdd, Nat.reduceSub, Nat.reduceLT, Nat.reduceMul, Nat.reducePow, Nat.reduceLeDiff, Int.reduceToNat, Int.reduceLE, Int.reduceLT, Int.reducePow, hB, instL_hEng0]
    refine kCall_Ret (key i D c hD hc (by omega) (by omega) (by omega)) (by rfl) [(1, 0), (2, 0), (3, 0), (0, 0)] (by simp [CALL]) (by simp [CALL, hB, cellsAt, instL_hEng, hEng_take, tk]) (by simp [CALL, hB]) (by simp [hB, okL_bs, okL_hEng]) (by simp [okL_bs]) fun r _ => ?_
    simp only [CALL, ↓VC, VP, TT, List.getElem?_toArray, Nat.reduceEqDiff, reduceCtorEq, Nat.reduceAdd, Nat.reduceSub, Nat.reduceLT, Nat.reduceMul, Nat.reducePow, Nat.reduceLeDiff, Int.reduceToNat, Int.reduceLE, Int.reduceLT, Int.reducePow, instL_room]
    refine ⟨_, _, [0, 4], ⟨some r, by simp, rfl, rfl⟩, ?_⟩
    simp [-List.reduceReplicate, LES, pfOut, e1, e2, e3]
theorem pf_len {n : Nat} {i : Int} {D : List UInt8} (hD : D.length = 32 * n) : (pfL n i D).length = 32 * pfE n i := by
  unfold pfL pfE; split
  · exact proofL_len _ _ _ hD
  · rfl
theorem pf_le {n : Nat} {i : Int} (hm : n ≤ 1048576) : pfE n i ≤ 1048576 := by
  unfold pfE; split
  · exact Nat.le_trans (depL_le _ _) hm
  · omega
def pfOutU (n : Nat) (i : Int) (D : List UInt8) (r : Nat) : V × List Blk := (.t [.s 1 0 (pfE n i) (pfE n i + r), .c (.int .i64 (pfC n i))], [⟨true, bs (pfL n i D) ++ List.replicate (32 * r) .j⟩])
theorem pf_uni {n : Nat} {i : Int} {D : List UInt8} (hD : D.length = 32 * n) : ∀ o : Option Nat, (o = none → pfE n i = 0) → ∃ r : Nat, True ∧ nilV (pfOut n i D o).1 (pfOutU n i D r).1 ∧ ∃ ex, (pfOutU n i D r).2 = (pfOut n i D o).2 ++ ex ∧ ∀ b ∈ ex, b.cells = [] := by
  intro o ho
  cases o with
  | some r => exact ⟨r, trivial, by simp [pfOut, pfOutU, nilV, nilVs], [], by simp [pfOut, pfOutU], by simp⟩
  | none =>
    have e := ho rfl
    have el : pfL n i D = [] := List.eq_nil_of_length_eq_zero (by rw [pf_len hD]; omega)
    exact ⟨0, trivial, by simp [pfOut, pfOutU, nilV, nilVs, e], _, by simp [pfOut, pfOutU, el, bs_nil]; rfl, by simp⟩
theorem c_spec_ProofOfU (n c : Nat) (i : Int) (D : List UInt8) (hD : D.length = 32 * n) (hc : n ≤ c) : LC Try.prog 7 [.s 0 0 n c, .c (.int .i64 (i))] [⟨false, bs D⟩] (Ret [⟨false, bs D⟩] (fun _ : Nat => True) fun r => (.t [.s 1 0 (pfE n i) (pfE n i + r), .c (.int .i64 (pfC n i))], [⟨true, bs (pfL n i D) ++ List.replicate (32 * r) .j⟩])) :=
  LC_nil (c_spec_ProofOf n c i D hD hc) (pf_uni hD)
theorem c_impl_ProofOfU (n c : Nat) (i : Int) (D : List UInt8) (hD : D.length = 32 * n) (hc : n ≤ c) : LC Try.prog 6 [.s 0 0 n c, .c (.int .i64 (i))] [⟨false, bs D⟩] (Ret [⟨false, bs D⟩] (fun _ : Nat => True) fun r => (.t [.s 1 0 (pfE n i) (pfE n i + r), .c (.int .i64 (pfC n i))], [⟨true, bs (pfL n i D) ++ List.replicate (32 * r) .j⟩])) :=
  LC_nil (c_impl_ProofOf n c i D hD hc) (pf_uni hD)
end Go.Proofs.Ytledcckafhpgaaa
