import Derived.Test.YtapagcnipdpfiaaGrowth
import Derived.Test.YtapagcnipdpfiaaProofOf
/- GrowthOf: the program and the reference. -/
set_option linter.unusedSimpArgs false
set_option linter.unusedVariables false
namespace Go.Proofs.Ytapagcnipdpfiaa
open Go Go.Vc
set_option maxRecDepth 10000
set_option maxHeartbeats 4000000
def okG (n : Nat) (i : Int) : Prop := n ≤ 64 ∧ 1 ≤ i ∧ i ≤ (n : Int)
instance (n : Nat) (i : Int) : Decidable (okG n i) := by unfold okG; infer_instance
def gwE (n : Nat) (i : Int) : Nat := if okG n i then gdepL n i.toNat true else 0
def gwL (n : Nat) (i : Int) (D : List UInt8) : List UInt8 := if okG n i then growL n i.toNat true D else []
def gwC (n : Nat) (i : Int) : Int := if okG n i then 0 else 2
theorem gw_no {n : Nat} {i : Int} {D : List UInt8} (h : ¬ okG n i) : gwE n i = 0 ∧ gwL n i D = [] ∧ gwC n i = 2 := by unfold gwE gwL gwC; rw [if_neg h, if_neg h, if_neg h]; exact ⟨rfl, rfl, rfl⟩
theorem gw_yes {n i : Nat} {D : List UInt8} (h : n ≤ 64) (h1 : 1 ≤ i) (hi : i ≤ n) : gwE n (i : Int) = gdepL n i true ∧ gwL n (i : Int) D = growL n i true D ∧ gwC n (i : Int) = 0 := by
  have : okG n (i : Int) := ⟨h, by omega, by omega⟩
  unfold gwE gwL gwC; rw [if_pos this, if_pos this, if_pos this, Int.toNat_natCast]; exact ⟨rfl, rfl, rfl⟩
def gwOut (n : Nat) (i : Int) (D : List UInt8) (o : Option Nat) : V × List Blk := match o with
  | some r => (.t [.s 1 0 (gwE n i) (gwE n i + r), .c (.int .i64 (gwC n i))], [⟨true, bs (gwL n i D) ++ List.replicate (32 * r) .j⟩])
  | none => (.t [.c (.slice none 0 0), .c (.int .i64 (gwC n i))], [])
theorem c_spec_GrowthOf (n c : Nat) (i : Int) (D : List UInt8) (hD : D.length = 32 * n) (hc : n ≤ c) : LC Try.prog 18 [.s 0 0 n c, .c (.int .i64 (i))] [⟨false, bs D⟩] (Ret [⟨false, bs D⟩] (fun o : Option Nat => o = none → gwE n i = 0) (gwOut n i D)) := by
  have key := c_spec_l09Growth n
  refine LC_of (X := XX (fun _ => .nil) (fun _ => []) [25, 33, 34, 61, 62, 82, 87, 112, 119, 141] 1) envOK Try.func18 (by kernel_rfl) (by kernel_rfl) rfl (Nat.le_of_ble_eq_true (by kernel_rfl)) ?_
  simp only [kFun, Try.f18, List.length_nil, List.length_cons, Nat.sub_zero, Nat.reduceSub, Nat.reduceAdd, List.nil_append, List.cons_append, List.replicate_succ, List.replicate_zero]
  simp only [XX, ↓VC, VP, TT, List.getElem?_toArray, Nat.reduceEqDiff, reduceCtorEq, Nat.reduceAdd, Nat.reduceSub, Nat.reduceLT, Nat.reduceMul, Nat.reducePow, Nat.reduceLeDiff, Int.reduceToNat, Int.reduceLE, Int.reduceLT, Int.reducePow]
  refine kGd_split rfl (fun h1 => ?_) (fun h1 => ?_) <;> simp only [↓VC, VP, TT, List.getElem?_toArray, Nat.reduceEqDiff, reduceCtorEq, Nat.reduceAdd, Nat.reduceSub, Nat.reduceLT, Nat.reduceMul, Nat.reducePow, Nat.reduceLeDiff, Int.reduceToNat, Int.reduceLE, Int.reduceLT, Int.reducePow, h1]
  · have h1' : 64 < n := by have := of_decide_eq_true h1; omega
    obtain ⟨e1, e2, e3⟩ := gw_no (n := n) (i := i) (D := D) (fun h => by have := h.1; omega)
    refine ⟨_, _, [0], ⟨none, fun _ => e1, rfl, rfl⟩, ?_⟩
    simp [-List.reduceReplicate, LES, gwOut, e3]
  · have h1' : n ≤ 64 := by have := of_decide_eq_false h1; omega
    refine kCall_val (c_spec_l01In i 1 (n : Int)) (by rfl) [] (by simp [CALL]) (by simp [CALL, cellsAt]) (by simp [CALL]) (by simp [okL_bs]) ?_
    simp only [CALL, ↓VC, VP, TT, List.getElem?_toArray, Nat.reduceEqDiff, reduceCtorEq, Nat.reduceAdd, Nat.reduceSub, Nat.reduceLT, Nat.reduceMul, Nat.reducePow, Nat.reduceLeDiff, Int.reduceToNat, Int.reduceLE, Int.reduceLT, Int.reducePow]
    refine ⟨fun h2 => ?_, fun h2 => ?_⟩
    · simp only [Bool.not_eq_true', decide_eq_false_iff_not] at h2
      obtain ⟨e1, e2, e3⟩ := gw_no (n := n) (i := i) (D := D) (fun h => h2 h.2)
      refine ⟨_, _, [0], ⟨none, fun _ => e1, rfl, rfl⟩, ?_⟩
      simp [-List.reduceReplicate, LES, gwOut, e3]
    simp only [Bool.not_eq_false', decide_eq_true_eq] at h2
    obtain ⟨i, rfl⟩ : ∃ k : Nat, i = k := ⟨i.toNat, by omega⟩
    obtain ⟨e1, e2, e3⟩ := gw_yes (n := n) (i := i) (D := D) h1' (by omega) (by omega)
    refine kCall_Ret (key i true D c hD hc (by omega) (by omega) (by omega)) (by rfl) [(0, 0)] (by simp [CALL]) (by simp [CALL, cellsAt, tk]) (by simp [CALL]) (by simp [okL_bs]) (by simp [okL_bs]) fun r _ => ?_
    simp only [CALL, ↓VC, VP, TT, List.getElem?_toArray, Nat.reduceEqDiff, reduceCtorEq, Nat.reduceAdd, Nat.reduceSub, Nat.reduceLT, Nat.reduceMul, Nat.reducePow, Nat.reduceLeDiff, Int.reduceToNat, Int.reduceLE, Int.reduceLT, Int.reducePow, instL_room]
    refine ⟨_, _, [0, 1], ⟨some r, by simp, rfl, rfl⟩, ?_⟩
    simp [-List.reduceReplicate, LES, gwOut, e1, e2, e3]
theorem c_impl_GrowthOf (n c : Nat) (i : Int) (D : List UInt8) (hD : D.length = 32 * n) (hc : n ≤ c) : LC Try.prog 17 [.s 0 0 n c, .c (.int .i64 (i))] [⟨false, bs D⟩] (Ret [⟨false, bs D⟩] (fun o : Option Nat => o = none → gwE n i = 0) (gwOut n i D)) := by
  have key := c_hasher_growth n
  refine LC_of (X := XX (fun _ => .nil) (fun _ => []) [25, 33, 34, 61, 62, 82, 87, 112, 119, 141] 1) envOK Try.func17 (by kernel_rfl) (by kernel_rfl) rfl (Nat.le_of_ble_eq_true (by kernel_rfl)) ?_
  simp only [kFun, Try.f17, List.length_nil, List.length_cons, Nat.sub_zero, Nat.reduceSub, Nat.reduceAdd, List.nil_append, List.cons_append, List.replicate_succ, List.replicate_zero]
  simp only [XX, ↓VC, VP, TT, List.getElem?_toArray, Nat.reduceEqDiff, reduceCtorEq, Nat.reduceAdd, Nat.reduceSub, Nat.reduceLT, Nat.reduceMul, Nat.reducePow, Nat.reduceLeDiff, Int.reduceToNat, Int.reduceLE, Int.reduceLT, Int.reducePow]
  refine kGd_split rfl (fun h1 => ?_) (fun h1 => ?_) <;> simp only [↓VC, VP, TT, List.getElem?_toArray, Nat.reduceEqDiff, reduceCtorEq, Nat.reduceAdd, Nat.reduceSub, Nat.reduceLT, Nat.reduceMul, Nat.reducePow, Nat.reduceLeDiff, Int.reduceToNat, Int.reduceLE, Int.reduceLT, Int.reducePow, h1]
  · have h1' : 64 < n := by have := of_decide_eq_true h1; omega
    obtain ⟨e1, e2, e3⟩ := gw_no (n := n) (i := i) (D := D) (fun h => by have := h.1; omega)
    refine ⟨_, _, [0], ⟨none, fun _ => e1, rfl, rfl⟩, ?_⟩
    simp [-List.reduceReplicate, LES, gwOut, e3]
  · have h1' : n ≤ 64 := by have := of_decide_eq_false h1; omega
    refine kCall_val (c_impl_lengthD n c D) (by rfl) [(0, 0)] (by simp [CALL]) (by simp [CALL, cellsAt, tk]) (by simp [CALL]) (by simp [okL_bs]) ?_
    simp only [CALL, ↓VC, VP, TT, List.getElem?_toArray, Nat.reduceEqDiff, reduceCtorEq, Nat.reduceAdd, Nat.reduceSub, Nat.reduceLT, Nat.reduceMul, Nat.reducePow, Nat.reduceLeDiff, Int.reduceToNat, Int.reduceLE, Int.reduceLT, Int.reducePow]
    refine kCall_val (c_impl_inRange i 1 (n : Int)) (by rfl) [] (by simp [CALL]) (by simp [CALL, cellsAt]) (by simp [CALL]) (by simp [okL_bs]) ?_
    simp only [CALL, ↓VC, VP, TT, List.getElem?_toArray, Nat.reduceEqDiff, reduceCtorEq, Nat.reduceAdd, Nat.reduceSub, Nat.reduceLT, Nat.reduceMul, Nat.reducePow, Nat.reduceLeDiff, Int.reduceToNat, Int.reduceLE, Int.reduceLT, Int.reducePow]
    refine ⟨fun h2 => ?_, fun h2 => ?_⟩
    · simp only [Bool.not_eq_true', decide_eq_false_iff_not] at h2
      obtain ⟨e1, e2, e3⟩ := gw_no (n := n) (i := i) (D := D) (fun h => h2 h.2)
      refine ⟨_, _, [0], ⟨none, fun _ => e1, rfl, rfl⟩, ?_⟩
      simp [-List.reduceReplicate, LES, gwOut, e3]
    simp only [Bool.not_eq_false', decide_eq_true_eq] at h2
    obtain ⟨i, rfl⟩ : ∃ k : Nat, i = k := ⟨i.toNat, by omega⟩
    obtain ⟨e1, e2, e3⟩ := gw_yes (n := n) (i := i) (D := D) h1' (by omega) (by omega)
    refine kCall_Ret c_newHasher (by rfl) [] (by simp [CALL]) (by simp [CALL]) (by simp [CALL]) (by simp) (by simp [hB]) fun _ _ => ?_
    simp only [CALL, ↓VC, VP, TT, List.getElem?_toArray, Nat.reduceEqDiff, reduceCtorEq, Nat.reduceAdd, Nat.reduceSub, Nat.reduceLT, Nat.reduceMul, Nat.reducePow, Nat.reduceLeDiff, Int.reduceToNat, Int.reduceLE, Int.reduceLT, Int.reducePow, hB, instL_hEng0]
    refine kCall_Ret (key i true D c hD hc (by omega) (by omega) (by omega)) (by rfl) [(1, 0), (2, 0), (3, 0), (0, 0)] (by simp [CALL]) (by simp [CALL, hB, cellsAt, instL_hEng, hEng_take, tk]) (by simp [CALL, hB]) (by simp [hB, okL_bs, okL_hEng]) (by simp [okL_bs]) fun r _ => ?_
    simp only [CALL, ↓VC, VP, TT, List.getElem?_toArray, Nat.reduceEqDiff, reduceCtorEq, Nat.reduceAdd, Nat.reduceSub, Nat.reduceLT, Nat.reduceMul, Nat.reducePow, Nat.reduceLeDiff, Int.reduceToNat, Int.reduceLE, Int.reduceLT, Int.reducePow, instL_room]
    refine ⟨_, _, [0, 4], ⟨some r, by simp, rfl, rfl⟩, ?_⟩
    simp [-List.reduceReplicate, LES, gwOut, e1, e2, e3]
theorem gw_len {n : Nat} {i : Int} {D : List UInt8} (hD : D.length = 32 * n) : (gwL n i D).length = 32 * gwE n i := by
  unfold gwL gwE; split
  · exact growL_len _ _ _ _ hD
  · rfl
theorem gw_le {n : Nat} {i : Int} (hm : n ≤ 1048576) : gwE n i ≤ 1048576 := by
  unfold gwE; split
  · rename_i h
    have := gdepL_le n i.toNat true
    have := h.1; omega
  · omega
def gwOutU (n : Nat) (i : Int) (D : List UInt8) (r : Nat) : V × List Blk := (.t [.s 1 0 (gwE n i) (gwE n i + r), .c (.int .i64 (gwC n i))], [⟨true, bs (gwL n i D) ++ List.replicate (32 * r) .j⟩])
theorem gw_uni {n : Nat} {i : Int} {D : List UInt8} (hD : D.length = 32 * n) : ∀ o : Option Nat, (o = none → gwE n i = 0) → ∃ r : Nat, True ∧ nilV (gwOut n i D o).1 (gwOutU n i D r).1 ∧ ∃ ex, (gwOutU n i D r).2 = (gwOut n i D o).2 ++ ex ∧ ∀ b ∈ ex, b.cells = [] := by
  intro o ho
  cases o with
  | some r => exact ⟨r, trivial, by simp [gwOut, gwOutU, nilV, nilVs], [], by simp [gwOut, gwOutU], by simp⟩
  | none =>
    have e := ho rfl
    have el : gwL n i D = [] := List.eq_nil_of_length_eq_zero (by rw [gw_len hD]; omega)
    exact ⟨0, trivial, by simp [gwOut, gwOutU, nilV, nilVs, e], _, by simp [gwOut, gwOutU, el, bs_nil]; rfl, by simp⟩
theorem c_spec_GrowthOfU (n c : Nat) (i : Int) (D : List UInt8) (hD : D.length = 32 * n) (hc : n ≤ c) : LC Try.prog 18 [.s 0 0 n c, .c (.int .i64 (i))] [⟨false, bs D⟩] (Ret [⟨false, bs D⟩] (fun _ : Nat => True) fun r => (.t [.s 1 0 (gwE n i) (gwE n i + r), .c (.int .i64 (gwC n i))], [⟨true, bs (gwL n i D) ++ List.replicate (32 * r) .j⟩])) :=
  LC_nil (c_spec_GrowthOf n c i D hD hc) (gw_uni hD)
theorem c_impl_GrowthOfU (n c : Nat) (i : Int) (D : List UInt8) (hD : D.length = 32 * n) (hc : n ≤ c) : LC Try.prog 17 [.s 0 0 n c, .c (.int .i64 (i))] [⟨false, bs D⟩] (Ret [⟨false, bs D⟩] (fun _ : Nat => True) fun r => (.t [.s 1 0 (gwE n i) (gwE n i + r), .c (.int .i64 (gwC n i))], [⟨true, bs (gwL n i D) ++ List.replicate (32 * r) .j⟩])) :=
  LC_nil (c_impl_GrowthOf n c i D hD hc) (gw_uni hD)
end Go.Proofs.Ytapagcnipdpfiaa
