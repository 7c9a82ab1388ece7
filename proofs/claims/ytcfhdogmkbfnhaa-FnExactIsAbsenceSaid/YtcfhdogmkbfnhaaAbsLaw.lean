import Derived.Test.YtcfhdogmkbfnhaaAbsS
import Derived.Test.YtcfhdogmkbfnhaaFieldM
/- IsAbsence: the program and the reference hand back the same. -/
set_option linter.unusedSimpArgs false
set_option linter.unusedVariables false
namespace Go.Proofs.Ytcfhdogmkbfnhaa
open Go Go.Vc
set_option maxRecDepth 10000
set_option maxHeartbeats 4000000
/-- The memory that comes in. -/
def inZ (K : List UInt8) (D : List (List UInt8 × Nat)) : List Blk := ⟨false, bs K⟩ :: ⟨false, ptrV 2 (dPs D)⟩ :: partB false (dPs D)
section
variable {K : List UInt8} {D : List (List UInt8 × Nat)}
theorem inZ_len : (inZ K D).length = D.length + 2 := by simp [inZ, partB_length, dPs_length]
theorem inZ_at : zAt (inZ K D) 0 1 2 K D := ⟨bAt_of rfl, ⟨bAt_of rfl, fun i p hp => by rw [Nat.add_comm]; exact bAt_of (partB_get0 hp)⟩⟩
theorem inZ_st : stM (inZ K D) := by
  intro x hx
  rw [inZ_len]
  exact stB_cons (stL_bs _ _) (stB_cons (stL_ptrV (by rw [dPs_length]; omega)) (stB_part dPs_st)) x hx
theorem sum_partG {N : Nat} (h : D.length + sumG D ≤ N) : ∀ p ∈ D, p.1.length / 32 ≤ N := fun p hp => by
  obtain ⟨i, hi⟩ := List.mem_iff_getElem?.1 hp
  have h1 := sumG_succ hi
  have h2 := sumG_le D (i + 1)
  omega
theorem cpG_le (h : ∀ p ∈ D, p.1.length = 32 * (p.1.length / 32) ∧ p.1.length / 32 ≤ 1048576) : ∀ p ∈ cpG D, p.1.length = 32 * (p.1.length / 32) ∧ p.1.length / 32 ≤ p.2 ∧ p.1.length / 32 ≤ 1048576 := fun p hp => by
  simp only [cpG, List.mem_map] at hp
  obtain ⟨q, hq, rfl⟩ := hp
  exact ⟨(h q hq).1, Nat.le_refl _, (h q hq).2⟩
end
theorem law_FnExactIsAbsence (r : List UInt8) (hr : r.length = 32) (n : Int) (_ : (Lit.int .i64 n).wf = true) (d : List UInt8) (hd : d.length = 32) (z : Int) (_ : (Lit.int .i64 z).wf = true) (m c1 : Nat) (K : List UInt8) (hK : K.length = 32 * m) (hc1 : m ≤ c1) (m1 : c1 ≤ maxLen) (D : List (List UInt8 × Nat)) (c2 : Nat) (hc2 : D.length ≤ c2) (m2 : c2 ≤ maxLen) (hD : ∀ p ∈ D, p.1.length = 32 * (p.1.length / 32) ∧ p.1.length / 32 ≤ p.2 ∧ p.2 ≤ maxLen) :
    LC Try.prog 9 [.a (bs r), .c (.int .i64 (n)), .a (bs d), .a [.c (.int .i64 (z)), .s 0 0 m c1, .s 1 0 D.length c2]] (⟨false, bs K⟩ :: ⟨false, ptrV 2 (dPs D)⟩ :: partB false (dPs D)) (fun v _ => v = .c (.bool true)) := by
  show LC _ _ _ (inZ K D) _
  have hl := inZ_len (K := K) (D := D)
  have f := inZ_at (K := K) (D := D)
  have hst := inZ_st (K := K) (D := D)
  generalize inZ K D = H at *
  have hll : ∀ x, (H ++ [x]).length = H.length + 1 := fun x => by simp
  have hll2 : ∀ x y, ((H ++ [x]) ++ [y]).length = H.length + 1 + 1 := fun x y => by simp
  refine LC_of (X := XX (fun | 5 => .one 0 (.one 2 (.one 3 (.one 5 (.one 1 (.one 4 (.one 6 (.one 7 (.one 8 .nil)))))))) | 7 => .one 0 (.one 2 (.one 3 (.one 5 (.one 1 (.one 4 (.one 6 (.one 7 .nil))))))) | 10 => .one 0 (.one 1 (.one 2 (.one 3 (.one 4 .nil)))) | _ => .nil) (fun _ => []) [19, 20, 48, 49, 59, 72, 93, 112, 174] (H.length)) envOK Try.func9 (by kernel_rfl) (by kernel_rfl) (by simp [XX]) (Nat.le_of_ble_eq_true (by kernel_rfl)) ?_
  simp only [kFun, Try.f9, List.length_nil, List.length_cons, Nat.sub_zero, Nat.reduceSub, Nat.reduceAdd, List.nil_append, List.cons_append, List.replicate_succ, List.replicate_zero]
  simp only [XX, ↓VC, VP, TT, List.getElem?_toArray, Nat.reduceEqDiff, reduceCtorEq, Nat.reduceAdd, Nat.reduceSub, Nat.reduceLT, Nat.reduceMul, Nat.reducePow, Nat.reduceLeDiff, Int.reduceToNat, Int.reduceLE, Int.reduceLT, Int.reducePow, hr, hd, hll, hll2, app_3c]
  have fin : ∀ {hp : List Blk}, Ext H hp → ∃ (v' : V) (hp' : List Blk) (σ : List Nat), v' = .c (.bool (true)) ∧ LeS H.length σ [.c (.bool (true))] hp [v'] hp' := fun x => ⟨_, H, List.range H.length, rfl, LeS_mem rfl x (by simp [leT]) (by simp [stL, stV]) hst⟩
  obtain ⟨hp1, e1⟩ : ∃ hp1, hp1 = H ++ [⟨true, bs r⟩] ++ [⟨true, bs d⟩] ++ [⟨true, [.c (.int .i64 (z)), V.s 0 0 m c1, V.s 1 0 D.length c2]⟩] := ⟨_, rfl⟩
  rw [← e1]
  have x1 : Ext H hp1 := ⟨_, by rw [e1, List.append_assoc, List.append_assoc]⟩
  have fr : hp1[H.length]? = some ⟨true, bs r⟩ := by rw [e1]; exact app_3a
  have fd : hp1[H.length + 1]? = some ⟨true, bs d⟩ := by rw [e1]; exact app_3b
  have fA : hp1[H.length + 1 + 1]? = some ⟨true, [.c (.int .i64 (z)), V.s 0 0 m c1, V.s 1 0 D.length c2]⟩ := by rw [e1]; exact app_3c
  have hst1 : stM hp1 := by
    rw [e1]
    exact ((hst.app (stB_cons (stL_bs _ _) stB_nil)).app (stB_cons (stL_bs _ _) stB_nil)).app (by simp [stL, stV] <;> omega)
  have l1 : hp1.length = H.length + 3 := by simp [e1]
  replace f := f.mono x1
  clear e1
  refine kW_ex (c_laws_szAbsence z hst1.frz hK hc1 m1 hc2 m2 (fun p hp => by have := hD p hp; omega) f.frz) (by rfl) (by simp [okL, okV] <;> omega) hst1.ok fun y hy => ?_
  simp only [CALL, ↓VC, VP, TT, List.getElem?_toArray, Nat.reduceEqDiff, reduceCtorEq, Nat.reduceAdd, Nat.reduceSub, Nat.reduceLT, Nat.reduceMul, Nat.reducePow, Nat.reduceLeDiff, Int.reduceToNat, Int.reduceLE, Int.reduceLT, Int.reducePow, fA]
  refine ⟨fun _ => fin x1, fun h => ?_⟩
  obtain ⟨hm, hS⟩ := hy (by omega)
  have hDq : ∀ p ∈ D, p.1.length = 32 * (p.1.length / 32) ∧ p.1.length / 32 ≤ p.2 ∧ p.1.length / 32 ≤ 1048576 := fun p hp => ⟨(hD p hp).1, (hD p hp).2.1, sum_partG hS p hp⟩
  have hDr := cpG_le fun p hp => ⟨(hDq p hp).1, (hDq p hp).2.2⟩
  simp only [CALL, ↓VC, VP, TT, List.getElem?_toArray, Nat.reduceEqDiff, reduceCtorEq, Nat.reduceAdd, Nat.reduceSub, Nat.reduceLT, Nat.reduceMul, Nat.reducePow, Nat.reduceLeDiff, Int.reduceToNat, Int.reduceLE, Int.reduceLT, Int.reducePow, fA, fr, fd, hr, hd, ↓vSub_r hr, ↓vSub_r hd]
  refine kCall_val (c_laws_toDigest r hr) (by rfl) [] (by simp [CALL, cellsAt, tk, take_room, bs_length, bs_nil]) (by simp [CALL, cellsAt, tk, take_room, bs_length, bs_nil]) (by simp [CALL, cellsAt, tk, take_room, bs_length, bs_nil]) (by simp [okL_bs, okL_room, okL, okV]) ?_
  simp (config := { maxSteps := 2000000 }) only [CALL, ↓VC, VP, TT, List.getElem?_toArray, Nat.reduceEqDiff, reduceCtorEq, Nat.reduceAdd, Nat.reduceSub, Nat.reduceLT, Nat.reduceMul, Nat.reducePow, Nat.reduceLeDiff, Int.reduceToNat, Int.reduceLE, Int.reduceLT, Int.reducePow, instL_room, Bool.not_true, Bool.not_false, fA, fd, fr, ↓vSub_r hr, ↓vSub_r hd]
  refine kCall_val (c_laws_toDigest d hd) (by rfl) [] (by simp [CALL, cellsAt, tk, take_room, bs_length, bs_nil]) (by simp [CALL, cellsAt, tk, take_room, bs_length, bs_nil]) (by simp [CALL, cellsAt, tk, take_room, bs_length, bs_nil]) (by simp [okL_bs, okL_room, okL, okV]) ?_
  simp (config := { maxSteps := 2000000 }) only [CALL, ↓VC, VP, TT, List.getElem?_toArray, Nat.reduceEqDiff, reduceCtorEq, Nat.reduceAdd, Nat.reduceSub, Nat.reduceLT, Nat.reduceMul, Nat.reducePow, Nat.reduceLeDiff, Int.reduceToNat, Int.reduceLE, Int.reduceLT, Int.reducePow, instL_room, Bool.not_true, Bool.not_false, fA, fd, fr, ↓vSub_r hr, ↓vSub_r hd]
  refine kW_ret (by have := c_laws_toAbsence z hst1.frz hK hc1 hm hc2 (by omega) hDq f.frz; rw [frz_length] at this; exact this) (by rfl) (by simp [okL, okV] <;> omega) hst1.ok (fun _ => newZ_own) fun _ hp2 _ e2 => ?_
  have x2 : Ext hp1 hp2 := ⟨_, e2⟩
  have s2 := newZ_at e2
  have hst2 : stM hp2 := by rw [e2]; exact hst1.app newZ_st
  have l2 : hp2.length = hp1.length + (2 + D.length) := by rw [e2, List.length_append, newZ_len]
  replace fA := x2.get fA; replace fr := x2.get fr; replace fd := x2.get fd; replace f := f.mono x2
  have y2 := x1.trans x2
  clear e2
  simp (config := { maxSteps := 2000000 }) only [CALL, ↓VC, VP, TT, List.getElem?_toArray, Nat.reduceEqDiff, reduceCtorEq, Nat.reduceAdd, Nat.reduceSub, Nat.reduceLT, Nat.reduceMul, Nat.reducePow, Nat.reduceLeDiff, Int.reduceToNat, Int.reduceLE, Int.reduceLT, Int.reducePow, instL_room, Bool.not_true, Bool.not_false, fA, fd, fr, ↓vSub_r hr, ↓vSub_r hd]
  refine kW_val (by have := c_spec_IsAbsence (m := m) (c1 := m) (c2 := D.length) hst2.frz hr hd n z hK (Nat.le_refl _) hm (by rw [cpG_length]; omega) hDr s2.k.frz s2.d.frz; rw [cpG_length] at this; exact this) (by rfl) (by simp [okL, okV, okL_bs] <;> omega) hst2.ok ?_
  simp (config := { maxSteps := 2000000 }) only [CALL, ↓VC, VP, TT, List.getElem?_toArray, Nat.reduceEqDiff, reduceCtorEq, Nat.reduceAdd, Nat.reduceSub, Nat.reduceLT, Nat.reduceMul, Nat.reducePow, Nat.reduceLeDiff, Int.reduceToNat, Int.reduceLE, Int.reduceLT, Int.reducePow, instL_room, Bool.not_true, Bool.not_false, fA, fd, fr, ↓vSub_r hr, ↓vSub_r hd]
  refine kW_ret (by have := c_laws_toAbsence z hst2.frz hK hc1 hm hc2 (by omega) hDq f.frz; rw [frz_length] at this; exact this) (by rfl) (by simp [okL, okV] <;> omega) hst2.ok (fun _ => newZ_own) fun _ hp3 _ e3 => ?_
  have x3 : Ext hp2 hp3 := ⟨_, e3⟩
  have s3 := newZ_at e3
  have hst3 : stM hp3 := by rw [e3]; exact hst2.app newZ_st
  have l3 : hp3.length = hp2.length + (2 + D.length) := by rw [e3, List.length_append, newZ_len]
  replace fA := x3.get fA; replace fr := x3.get fr; replace fd := x3.get fd; replace f := f.mono x3
  have y3 := y2.trans x3
  clear e3
  simp (config := { maxSteps := 2000000 }) only [CALL, ↓VC, VP, TT, List.getElem?_toArray, Nat.reduceEqDiff, reduceCtorEq, Nat.reduceAdd, Nat.reduceSub, Nat.reduceLT, Nat.reduceMul, Nat.reducePow, Nat.reduceLeDiff, Int.reduceToNat, Int.reduceLE, Int.reduceLT, Int.reducePow, instL_room, Bool.not_true, Bool.not_false, ↓app_last, set_last]
  obtain ⟨hp4, e4⟩ : ∃ hp4, hp4 = hp3 ++ [⟨true, [.c (.int .i64 (z)), V.s hp2.length 0 m m, V.s (hp2.length + 1) 0 D.length D.length]⟩] := ⟨_, rfl⟩
  rw [← e4]
  have x4 : Ext hp3 hp4 := ⟨_, e4⟩
  have hst4 : stM hp4 := by rw [e4]; exact hst3.app (by simp [stL, stV] <;> omega)
  have l4 : hp4.length = hp3.length + 1 := by simp [e4]
  have fB : hp4[hp3.length]? = some ⟨true, [.c (.int .i64 (z)), V.s hp2.length 0 m m, V.s (hp2.length + 1) 0 D.length D.length]⟩ := by rw [e4]; exact at_app rfl
  replace fA := x4.get fA; replace fr := x4.get fr; replace fd := x4.get fd; replace f := f.mono x4; replace s3 := s3.mono x4
  have y4 := y3.trans x4
  clear e4
  simp (config := { maxSteps := 2000000 }) only [CALL, ↓VC, VP, TT, List.getElem?_toArray, Nat.reduceEqDiff, reduceCtorEq, Nat.reduceAdd, Nat.reduceSub, Nat.reduceLT, Nat.reduceMul, Nat.reducePow, Nat.reduceLeDiff, Int.reduceToNat, Int.reduceLE, Int.reduceLT, Int.reducePow, instL_room, Bool.not_true, Bool.not_false, fA, fB, fd, fr, ↓vSub_r hr, ↓vSub_r hd]
  refine kCall_val (c_laws_toDigest r hr) (by rfl) [] (by simp [CALL, cellsAt, tk, take_room, bs_length, bs_nil]) (by simp [CALL, cellsAt, tk, take_room, bs_length, bs_nil]) (by simp [CALL, cellsAt, tk, take_room, bs_length, bs_nil]) (by simp [okL_bs, okL_room, okL, okV]) ?_
  simp (config := { maxSteps := 2000000 }) only [CALL, ↓VC, VP, TT, List.getElem?_toArray, Nat.reduceEqDiff, reduceCtorEq, Nat.reduceAdd, Nat.reduceSub, Nat.reduceLT, Nat.reduceMul, Nat.reducePow, Nat.reduceLeDiff, Int.reduceToNat, Int.reduceLE, Int.reduceLT, Int.reducePow, instL_room, Bool.not_true, Bool.not_false, fA, fB, fd, fr, ↓vSub_r hr, ↓vSub_r hd]
  refine kCall_val (c_laws_toDigest d hd) (by rfl) [] (by simp [CALL, cellsAt, tk, take_room, bs_length, bs_nil]) (by simp [CALL, cellsAt, tk, take_room, bs_length, bs_nil]) (by simp [CALL, cellsAt, tk, take_room, bs_length, bs_nil]) (by simp [okL_bs, okL_room, okL, okV]) ?_
  simp (config := { maxSteps := 2000000 }) only [CALL, ↓VC, VP, TT, List.getElem?_toArray, Nat.reduceEqDiff, reduceCtorEq, Nat.reduceAdd, Nat.reduceSub, Nat.reduceLT, Nat.reduceMul, Nat.reducePow, Nat.reduceLeDiff, Int.reduceToNat, Int.reduceLE, Int.reduceLT, Int.reducePow, instL_room, Bool.not_true, Bool.not_false, fA, fB, fd, fr, ↓vSub_r hr, ↓vSub_r hd]
  refine kW_val (by have := c_impl_IsAbsence (m := m) (c1 := m) (c2 := D.length) hst4.frz hr hd n z hK (Nat.le_refl _) hm (by rw [cpG_length]; omega) hDr s3.k.frz s3.d.frz; rw [cpG_length] at this; exact this) (by rfl) (by simp [okL, okV, okL_bs] <;> omega) hst4.ok ?_
  simp (config := { maxSteps := 2000000 }) only [CALL, ↓VC, VP, TT, List.getElem?_toArray, Nat.reduceEqDiff, reduceCtorEq, Nat.reduceAdd, Nat.reduceSub, Nat.reduceLT, Nat.reduceMul, Nat.reducePow, Nat.reduceLeDiff, Int.reduceToNat, Int.reduceLE, Int.reduceLT, Int.reducePow, instL_room, Bool.not_true, Bool.not_false, fA, fB, beq_self_eq_true, Bool.not_true, Bool.not_false]
  refine kW_ret (by have := c_laws_toAbsence z hst4.frz hK hc1 hm hc2 (by omega) hDq f.frz; rw [frz_length] at this; exact this) (by rfl) (by simp [okL, okV] <;> omega) hst4.ok (fun _ => newZ_own) fun _ hp5 _ e5 => ?_
  have x5 : Ext hp4 hp5 := ⟨_, e5⟩
  have s5 := newZ_at e5
  have hst5 : stM hp5 := by rw [e5]; exact hst4.app newZ_st
  have l5 : hp5.length = hp4.length + (2 + D.length) := by rw [e5, List.length_append, newZ_len]
  replace fA := x5.get fA; replace fr := x5.get fr; replace fd := x5.get fd; replace f := f.mono x5
  have y5 := y4.trans x5
  clear e5
  simp (config := { maxSteps := 2000000 }) only [CALL, ↓VC, VP, TT, List.getElem?_toArray, Nat.reduceEqDiff, reduceCtorEq, Nat.reduceAdd, Nat.reduceSub, Nat.reduceLT, Nat.reduceMul, Nat.reducePow, Nat.reduceLeDiff, Int.reduceToNat, Int.reduceLE, Int.reduceLT, Int.reducePow, instL_room, Bool.not_true, Bool.not_false]
  refine kW_val (by have := c_laws_eqAbsence z hst5.frz hK (Nat.le_refl _) (Nat.le_refl _) hm (Nat.le_refl _) (Nat.le_refl _) (by rw [cpG_length]; omega) hDr (s3.mono x5).frz s5.frz; rw [cpG_length] at this; exact this) (by rfl) (by simp [okL, okV] <;> omega) hst5.ok ?_
  simp (config := { maxSteps := 2000000 }) only [CALL, ↓VC, VP, TT, List.getElem?_toArray, Nat.reduceEqDiff, reduceCtorEq, Nat.reduceAdd, Nat.reduceSub, Nat.reduceLT, Nat.reduceMul, Nat.reducePow, Nat.reduceLeDiff, Int.reduceToNat, Int.reduceLE, Int.reduceLT, Int.reducePow, instL_room, Bool.not_true, Bool.not_false, Bool.not_true]
  exact fin y5
end Go.Proofs.Ytcfhdogmkbfnhaa
