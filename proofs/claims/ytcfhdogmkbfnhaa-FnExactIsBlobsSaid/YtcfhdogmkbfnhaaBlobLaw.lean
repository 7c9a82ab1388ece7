import Derived.Test.YtcfhdogmkbfnhaaBlobS
import Derived.Test.YtcfhdogmkbfnhaaFieldM
/- IsBlobs, RootOfBlobs: the program and the reference hand back the same. -/
set_option linter.unusedSimpArgs false
set_option linter.unusedVariables false
namespace Go.Proofs.Ytcfhdogmkbfnhaa
open Go Go.Vc
set_option maxRecDepth 10000
set_option maxHeartbeats 4000000
/-- The memory that comes in. -/
def inS (K : List UInt8) (D : List (List UInt8 × Nat)) (Q : List Int) : List Blk := ⟨false, bs K⟩ :: ⟨false, ptrV 3 (bPs D)⟩ :: ⟨false, nsv Q⟩ :: partB false (bPs D)
section
variable {K : List UInt8} {D : List (List UInt8 × Nat)} {Q : List Int}
theorem inS_len : (inS K D Q).length = D.length + 3 := by simp [inS, partB_length, bPs_length]
theorem inS_at : sAt (inS K D Q) 0 1 2 3 K D Q := ⟨bAt_of rfl, ⟨bAt_of rfl, fun i p hp => by rw [Nat.add_comm]; exact bAt_of (partB_get0 hp)⟩, bAt_of rfl⟩
theorem inS_st : stM (inS K D Q) := by
  intro x hx
  rw [inS_len]
  exact stB_cons (stL_bs _ _) (stB_cons (stL_ptrV (by rw [bPs_length]; omega)) (stB_cons (stL_nsv _ _) (stB_part bPs_st))) x hx
theorem cpD_le (h : ∀ p ∈ D, p.1.length ≤ 1048576) : ∀ p ∈ cpD D, p.1.length ≤ p.2 ∧ p.1.length ≤ 1048576 := fun p hp => by
  simp only [cpD, List.mem_map] at hp
  obtain ⟨q, hq, rfl⟩ := hp
  exact ⟨Nat.le_refl _, h q hq⟩
theorem sum_part {N : Nat} (h : D.length + sumD D ≤ N) : ∀ p ∈ D, p.1.length ≤ N := fun p hp => by
  obtain ⟨i, hi⟩ := List.mem_iff_getElem?.1 hp
  have h1 := sumD_succ hi
  have h2 := sumD_le D (i + 1)
  omega
end
theorem rep_len {a : UInt8} {n : Nat} : (List.replicate n a).length = n := List.length_replicate
theorem law_FnExactIsBlobs (n c0 : Nat) (K : List UInt8) (hK : K.length = 32 * n) (hc0 : n ≤ c0) (m0 : c0 ≤ maxLen) (D : List (List UInt8 × Nat)) (c1 : Nat) (hc1 : D.length ≤ c1) (m1 : c1 ≤ maxLen) (hD : ∀ p ∈ D, p.1.length ≤ p.2 ∧ p.2 ≤ maxLen) (Q : List Int) (c2 : Nat) (hc2 : Q.length ≤ c2) (m2 : c2 ≤ maxLen) (_ : ∀ z ∈ Q, (Lit.int .i64 z).wf = true) :
    LC Try.prog 5 [.a [.s 0 0 n c0, .s 1 0 D.length c1, .s 2 0 Q.length c2]] (⟨false, bs K⟩ :: ⟨false, ptrV 3 (bPs D)⟩ :: ⟨false, nsv Q⟩ :: partB false (bPs D)) (fun v _ => v = .c (.bool true)) := by
  show LC _ _ _ (inS K D Q) _
  have hl := inS_len (K := K) (D := D) (Q := Q)
  have f := inS_at (K := K) (D := D) (Q := Q)
  have hst := inS_st (K := K) (D := D) (Q := Q)
  generalize inS K D Q = H at *
  refine LC_of (X := XX (fun | 10 => .one 0 (.one 1 (.one 2 (.one 3 (.one 4 .nil)))) | _ => .nil) (fun _ => []) [19, 20, 48, 49, 59, 72, 93, 112, 174] (H.length)) envOK Try.func5 (by kernel_rfl) (by kernel_rfl) (by simp [XX]) (Nat.le_of_ble_eq_true (by kernel_rfl)) ?_
  simp only [kFun, Try.f5, List.length_nil, List.length_cons, Nat.sub_zero, Nat.reduceSub, Nat.reduceAdd, List.nil_append, List.cons_append, List.replicate_succ, List.replicate_zero]
  simp only [XX, ↓VC, VP, TT, List.getElem?_toArray, Nat.reduceEqDiff, reduceCtorEq, Nat.reduceAdd, Nat.reduceSub, Nat.reduceLT, Nat.reduceMul, Nat.reducePow, Nat.reduceLeDiff, Int.reduceToNat, Int.reduceLE, Int.reduceLT, Int.reducePow, ↓app_last]
  have fin : ∀ {hp : List Blk}, Ext H hp → ∃ (v' : V) (hp' : List Blk) (σ : List Nat), v' = .c (.bool (true)) ∧ LeS H.length σ [.c (.bool (true))] hp [v'] hp' := fun x => ⟨_, H, List.range H.length, rfl, LeS_mem rfl x (by simp [leT]) (by simp [stL, stV]) hst⟩
  obtain ⟨hp1, e1⟩ : ∃ hp1, hp1 = H ++ [⟨true, [V.s 0 0 n c0, V.s 1 0 D.length c1, V.s 2 0 Q.length c2]⟩] := ⟨_, rfl⟩
  rw [← e1]
  have x1 : Ext H hp1 := ⟨_, e1⟩
  have hst1 : stM hp1 := by rw [e1]; exact hst.app (by simp [stL, stV]; omega)
  have l1 : hp1.length = H.length + 1 := by simp [e1]
  have fA : hp1[H.length]? = some ⟨true, [V.s 0 0 n c0, V.s 1 0 D.length c1, V.s 2 0 Q.length c2]⟩ := by rw [e1]; exact at_app rfl
  replace f := f.mono x1
  clear e1
  refine kW_ex (c_laws_szBlobs hst1.frz hK hc0 m0 hc1 m1 (fun p hp => by have := hD p hp; omega) hc2 m2 f.k.frz f.d.frz f.q.frz) (by rfl) (by simp [okL, okV]; omega) hst1.ok fun z hz => ?_
  simp only [CALL, ↓VC, VP, TT, List.getElem?_toArray, Nat.reduceEqDiff, reduceCtorEq, Nat.reduceAdd, Nat.reduceSub, Nat.reduceLT, Nat.reduceMul, Nat.reducePow, Nat.reduceLeDiff, Int.reduceToNat, Int.reduceLE, Int.reduceLT, Int.reducePow, fA]
  refine ⟨fun _ => fin x1, fun h => ?_⟩
  obtain ⟨hn, hS, hQn⟩ := hz (by omega)
  have hDq : ∀ p ∈ D, p.1.length ≤ p.2 ∧ p.1.length ≤ 1048576 := fun p hp => ⟨(hD p hp).1, sum_part hS p hp⟩
  have hDr := cpD_le fun p hp => (hDq p hp).2
  refine kW_ret (by have := c_laws_toBlobs hst1.frz hK hc0 hn hc1 (by omega) hDq hc2 hQn f.frz; rw [frz_length] at this; exact this) (by rfl) (by simp [okL, okV]; omega) hst1.ok (fun _ => newS_own) fun _ hp2 _ e2 => ?_
  have x2 : Ext hp1 hp2 := ⟨_, e2⟩
  have s2 := newS_at e2
  have hst2 : stM hp2 := by rw [e2]; exact hst1.app newS_st
  have l2 : hp2.length = hp1.length + 3 + D.length := by rw [e2]; simp [newS, partB_length, bPs_length, cpD_length]; omega
  replace fA := x2.get fA; replace f := f.mono x2
  have y2 := x1.trans x2
  clear e2
  simp only [CALL, ↓VC, VP, TT, List.getElem?_toArray, Nat.reduceEqDiff, reduceCtorEq, Nat.reduceAdd, Nat.reduceSub, Nat.reduceLT, Nat.reduceMul, Nat.reducePow, Nat.reduceLeDiff, Int.reduceToNat, Int.reduceLE, Int.reduceLT, Int.reducePow, fA]
  refine kW_val (by have := c_spec_IsBlobs (c1 := D.length) (c2 := Q.length) hst2.frz hK (Nat.le_refl _) hn (by rw [cpD_length]; omega) hQn hDr s2.frz; rw [cpD_length] at this; exact this) (by rfl) (by simp [okL, okV]; omega) hst2.ok ?_
  simp only [CALL, ↓VC, VP, TT, List.getElem?_toArray, Nat.reduceEqDiff, reduceCtorEq, Nat.reduceAdd, Nat.reduceSub, Nat.reduceLT, Nat.reduceMul, Nat.reducePow, Nat.reduceLeDiff, Int.reduceToNat, Int.reduceLE, Int.reduceLT, Int.reducePow, fA]
  refine kW_ret (by have := c_laws_toBlobs hst2.frz hK hc0 hn hc1 (by omega) hDq hc2 hQn f.frz; rw [frz_length] at this; exact this) (by rfl) (by simp [okL, okV]; omega) hst2.ok (fun _ => newS_own) fun _ hp3 _ e3 => ?_
  have x3 : Ext hp2 hp3 := ⟨_, e3⟩
  have s3 := newS_at e3
  have hst3 : stM hp3 := by rw [e3]; exact hst2.app newS_st
  have l3 : hp3.length = hp2.length + 3 + D.length := by rw [e3]; simp [newS, partB_length, bPs_length, cpD_length]; omega
  replace fA := x3.get fA; replace f := f.mono x3
  have y3 := y2.trans x3
  clear e3
  simp only [CALL, ↓VC, VP, TT, List.getElem?_toArray, Nat.reduceEqDiff, reduceCtorEq, Nat.reduceAdd, Nat.reduceSub, Nat.reduceLT, Nat.reduceMul, Nat.reducePow, Nat.reduceLeDiff, Int.reduceToNat, Int.reduceLE, Int.reduceLT, Int.reducePow, ↓app_last, set_last]
  obtain ⟨hp4, e4⟩ : ∃ hp4, hp4 = hp3 ++ [⟨true, [V.s hp2.length 0 n n, V.s (hp2.length + 1) 0 D.length D.length, V.s (hp2.length + 2) 0 Q.length Q.length]⟩] := ⟨_, rfl⟩
  rw [← e4]
  have x4 : Ext hp3 hp4 := ⟨_, e4⟩
  have hst4 : stM hp4 := by rw [e4]; exact hst3.app (by simp [stL, stV]; omega)
  have l4 : hp4.length = hp3.length + 1 := by simp [e4]
  have fB : hp4[hp3.length]? = some ⟨true, [V.s hp2.length 0 n n, V.s (hp2.length + 1) 0 D.length D.length, V.s (hp2.length + 2) 0 Q.length Q.length]⟩ := by rw [e4]; exact at_app rfl
  replace fA := x4.get fA; replace f := f.mono x4; replace s3 := s3.mono x4
  have y4 := y3.trans x4
  clear e4
  refine kW_val (by have := c_impl_IsBlobs (c1 := D.length) (c2 := Q.length) hst4.frz hK (Nat.le_refl _) hn (by rw [cpD_length]; omega) hQn hDr s3.frz; rw [cpD_length] at this; exact this) (by rfl) (by simp [okL, okV]; omega) hst4.ok ?_
  simp only [CALL, ↓VC, VP, TT, List.getElem?_toArray, Nat.reduceEqDiff, reduceCtorEq, Nat.reduceAdd, Nat.reduceSub, Nat.reduceLT, Nat.reduceMul, Nat.reducePow, Nat.reduceLeDiff, Int.reduceToNat, Int.reduceLE, Int.reduceLT, Int.reducePow, fA, fB, beq_self_eq_true, Bool.not_true, Bool.not_false]
  refine kW_ret (by have := c_laws_toBlobs hst4.frz hK hc0 hn hc1 (by omega) hDq hc2 hQn f.frz; rw [frz_length] at this; exact this) (by rfl) (by simp [okL, okV]; omega) hst4.ok (fun _ => newS_own) fun _ hp5 _ e5 => ?_
  have x5 : Ext hp4 hp5 := ⟨_, e5⟩
  have s5 := newS_at e5
  have hst5 : stM hp5 := by rw [e5]; exact hst4.app newS_st
  have l5 : hp5.length = hp4.length + 3 + D.length := by rw [e5]; simp [newS, partB_length, bPs_length, cpD_length]; omega
  replace fA := x5.get fA; replace f := f.mono x5
  have y5 := y4.trans x5
  clear e5
  simp only [CALL, ↓VC, VP, TT, List.getElem?_toArray, Nat.reduceEqDiff, reduceCtorEq, Nat.reduceAdd, Nat.reduceSub, Nat.reduceLT, Nat.reduceMul, Nat.reducePow, Nat.reduceLeDiff, Int.reduceToNat, Int.reduceLE, Int.reduceLT, Int.reducePow]
  refine kW_val (by have := c_laws_eqBlobs hst5.frz hK (Nat.le_refl _) (Nat.le_refl _) hn (Nat.le_refl _) (Nat.le_refl _) (by rw [cpD_length]; omega) hDr (Nat.le_refl _) (Nat.le_refl _) hQn (s3.mono x5).frz s5.frz; rw [cpD_length] at this; exact this) (by rfl) (by simp [okL, okV]; omega) hst5.ok ?_
  simp only [CALL, ↓VC, VP, TT, List.getElem?_toArray, Nat.reduceEqDiff, reduceCtorEq, Nat.reduceAdd, Nat.reduceSub, Nat.reduceLT, Nat.reduceMul, Nat.reducePow, Nat.reduceLeDiff, Int.reduceToNat, Int.reduceLE, Int.reduceLT, Int.reducePow, Bool.not_true]
  exact fin y5
theorem law_FnExactRootOfBlobs (n c0 : Nat) (K : List UInt8) (hK : K.length = 32 * n) (hc0 : n ≤ c0) (m0 : c0 ≤ maxLen) (D : List (List UInt8 × Nat)) (c1 : Nat) (hc1 : D.length ≤ c1) (m1 : c1 ≤ maxLen) (hD : ∀ p ∈ D, p.1.length ≤ p.2 ∧ p.2 ≤ maxLen) (Q : List Int) (c2 : Nat) (hc2 : Q.length ≤ c2) (m2 : c2 ≤ maxLen) (_ : ∀ z ∈ Q, (Lit.int .i64 z).wf = true) :
    LC Try.prog 6 [.a [.s 0 0 n c0, .s 1 0 D.length c1, .s 2 0 Q.length c2]] (⟨false, bs K⟩ :: ⟨false, ptrV 3 (bPs D)⟩ :: ⟨false, nsv Q⟩ :: partB false (bPs D)) (fun v _ => v = .c (.bool true)) := by
  show LC _ _ _ (inS K D Q) _
  have hl := inS_len (K := K) (D := D) (Q := Q)
  have f := inS_at (K := K) (D := D) (Q := Q)
  have hst := inS_st (K := K) (D := D) (Q := Q)
  generalize inS K D Q = H at *
  refine LC_of (X := XX (fun | 10 => .one 0 (.one 1 (.one 2 (.one 3 (.one 4 .nil)))) | _ => .nil) (fun _ => []) [19, 20, 48, 49, 59, 72, 93, 112, 174] (H.length)) envOK Try.func6 (by kernel_rfl) (by kernel_rfl) (by simp [XX]) (Nat.le_of_ble_eq_true (by kernel_rfl)) ?_
  simp only [kFun, Try.f6, List.length_nil, List.length_cons, Nat.sub_zero, Nat.reduceSub, Nat.reduceAdd, List.nil_append, List.cons_append, List.replicate_succ, List.replicate_zero]
  simp only [XX, ↓VC, VP, TT, List.getElem?_toArray, Nat.reduceEqDiff, reduceCtorEq, Nat.reduceAdd, Nat.reduceSub, Nat.reduceLT, Nat.reduceMul, Nat.reducePow, Nat.reduceLeDiff, Int.reduceToNat, Int.reduceLE, Int.reduceLT, Int.reducePow, ↓app_last]
  have fin : ∀ {hp : List Blk}, Ext H hp → ∃ (v' : V) (hp' : List Blk) (σ : List Nat), v' = .c (.bool (true)) ∧ LeS H.length σ [.c (.bool (true))] hp [v'] hp' := fun x => ⟨_, H, List.range H.length, rfl, LeS_mem rfl x (by simp [leT]) (by simp [stL, stV]) hst⟩
  obtain ⟨hp1, e1⟩ : ∃ hp1, hp1 = H ++ [⟨true, [V.s 0 0 n c0, V.s 1 0 D.length c1, V.s 2 0 Q.length c2]⟩] := ⟨_, rfl⟩
  rw [← e1]
  have x1 : Ext H hp1 := ⟨_, e1⟩
  have hst1 : stM hp1 := by rw [e1]; exact hst.app (by simp [stL, stV]; omega)
  have l1 : hp1.length = H.length + 1 := by simp [e1]
  have fA : hp1[H.length]? = some ⟨true, [V.s 0 0 n c0, V.s 1 0 D.length c1, V.s 2 0 Q.length c2]⟩ := by rw [e1]; exact at_app rfl
  replace f := f.mono x1
  clear e1
  refine kW_ex (c_laws_szBlobs hst1.frz hK hc0 m0 hc1 m1 (fun p hp => by have := hD p hp; omega) hc2 m2 f.k.frz f.d.frz f.q.frz) (by rfl) (by simp [okL, okV]; omega) hst1.ok fun z hz => ?_
  simp only [CALL, ↓VC, VP, TT, List.getElem?_toArray, Nat.reduceEqDiff, reduceCtorEq, Nat.reduceAdd, Nat.reduceSub, Nat.reduceLT, Nat.reduceMul, Nat.reducePow, Nat.reduceLeDiff, Int.reduceToNat, Int.reduceLE, Int.reduceLT, Int.reducePow, fA]
  refine ⟨fun _ => fin x1, fun h => ?_⟩
  obtain ⟨hn, hS, hQn⟩ := hz (by omega)
  have hDq : ∀ p ∈ D, p.1.length ≤ p.2 ∧ p.1.length ≤ 1048576 := fun p hp => ⟨(hD p hp).1, sum_part hS p hp⟩
  have hDr := cpD_le fun p hp => (hDq p hp).2
  refine kW_ret (by have := c_laws_toBlobs hst1.frz hK hc0 hn hc1 (by omega) hDq hc2 hQn f.frz; rw [frz_length] at this; exact this) (by rfl) (by simp [okL, okV]; omega) hst1.ok (fun _ => newS_own) fun _ hp2 _ e2 => ?_
  have x2 : Ext hp1 hp2 := ⟨_, e2⟩
  have s2 := newS_at e2
  have hst2 : stM hp2 := by rw [e2]; exact hst1.app newS_st
  have l2 : hp2.length = hp1.length + 3 + D.length := by rw [e2]; simp [newS, partB_length, bPs_length, cpD_length]; omega
  replace fA := x2.get fA; replace f := f.mono x2
  have y2 := x1.trans x2
  clear e2
  have hr := rtB_len (D := cpD D) (Q := Q) hK
  simp only [CALL, ↓VC, VP, TT, List.getElem?_toArray, Nat.reduceEqDiff, reduceCtorEq, Nat.reduceAdd, Nat.reduceSub, Nat.reduceLT, Nat.reduceMul, Nat.reducePow, Nat.reduceLeDiff, Int.reduceToNat, Int.reduceLE, Int.reduceLT, Int.reducePow, fA]
  refine kW_val (by have := c_spec_RootOfBlobs (c1 := D.length) (c2 := Q.length) hst2.frz hK (Nat.le_refl _) hn (by rw [cpD_length]; omega) hQn hDr s2.frz; rw [cpD_length] at this; exact this) (by rfl) (by simp [okL, okV]; omega) hst2.ok ?_
  simp only [CALL, ↓VC, VP, TT, List.getElem?_toArray, Nat.reduceEqDiff, reduceCtorEq, Nat.reduceAdd, Nat.reduceSub, Nat.reduceLT, Nat.reduceMul, Nat.reducePow, Nat.reduceLeDiff, Int.reduceToNat, Int.reduceLE, Int.reduceLT, Int.reducePow, fA, ↓app_last, set_last, hr, rep_len]
  obtain ⟨hp3, e3⟩ : ∃ hp3, hp3 = hp2 ++ [⟨true, bs (rtB n K (cpD D) Q).1⟩] := ⟨_, rfl⟩
  rw [← e3]
  have x3 : Ext hp2 hp3 := ⟨_, e3⟩
  have hst3 : stM hp3 := by rw [e3]; exact hst2.app (by intro x hx; rw [List.mem_singleton] at hx; subst hx; exact stL_bs _ _)
  have l3 : hp3.length = hp2.length + 1 := by simp [e3]
  have fR : hp3[hp2.length]? = some ⟨true, bs (rtB n K (cpD D) Q).1⟩ := by rw [e3]; exact at_app rfl
  replace fA := x3.get fA; replace f := f.mono x3
  have y3 := y2.trans x3
  clear e3
  try simp only [↓VC, VP, TT, List.getElem?_toArray, Nat.reduceEqDiff, reduceCtorEq, Nat.reduceAdd, Nat.reduceSub, Nat.reduceLT, Nat.reduceMul, Nat.reducePow, Nat.reduceLeDiff, Int.reduceToNat, Int.reduceLE, Int.reduceLT, Int.reducePow, fA]
  refine kW_ret (by have := c_laws_toBlobs hst3.frz hK hc0 hn hc1 (by omega) hDq hc2 hQn f.frz; rw [frz_length] at this; exact this) (by rfl) (by simp [okL, okV]; omega) hst3.ok (fun _ => newS_own) fun _ hp4 _ e4 => ?_
  have x4 : Ext hp3 hp4 := ⟨_, e4⟩
  have s4 := newS_at e4
  have hst4 : stM hp4 := by rw [e4]; exact hst3.app newS_st
  have l4 : hp4.length = hp3.length + 3 + D.length := by rw [e4]; simp [newS, partB_length, bPs_length, cpD_length]; omega
  replace fA := x4.get fA; replace f := f.mono x4
  have y4 := y3.trans x4
  clear e4
  replace fR := x4.get fR
  simp only [CALL, ↓VC, VP, TT, List.getElem?_toArray, Nat.reduceEqDiff, reduceCtorEq, Nat.reduceAdd, Nat.reduceSub, Nat.reduceLT, Nat.reduceMul, Nat.reducePow, Nat.reduceLeDiff, Int.reduceToNat, Int.reduceLE, Int.reduceLT, Int.reducePow, ↓app_last, set_last]
  obtain ⟨hp5, e5⟩ : ∃ hp5, hp5 = hp4 ++ [⟨true, [V.s hp3.length 0 n n, V.s (hp3.length + 1) 0 D.length D.length, V.s (hp3.length + 2) 0 Q.length Q.length]⟩] := ⟨_, rfl⟩
  rw [← e5]
  have x5 : Ext hp4 hp5 := ⟨_, e5⟩
  have hst5 : stM hp5 := by rw [e5]; exact hst4.app (by simp [stL, stV]; omega)
  have l5 : hp5.length = hp4.length + 1 := by simp [e5]
  have fB : hp5[hp4.length]? = some ⟨true, [V.s hp3.length 0 n n, V.s (hp3.length + 1) 0 D.length D.length, V.s (hp3.length + 2) 0 Q.length Q.length]⟩ := by rw [e5]; exact at_app rfl
  replace fA := x5.get fA; replace f := f.mono x5; replace fR := x5.get fR; replace s4 := s4.mono x5
  have y5 := y4.trans x5
  clear e5
  refine kW_val (by have := c_impl_RootOfBlobs (c1 := D.length) (c2 := Q.length) hst5.frz hK (Nat.le_refl _) hn (by rw [cpD_length]; omega) hQn hDr s4.frz; rw [cpD_length] at this; exact this) (by rfl) (by simp [okL, okV]; omega) hst5.ok ?_
  simp only [CALL, ↓VC, VP, TT, List.getElem?_toArray, Nat.reduceEqDiff, reduceCtorEq, Nat.reduceAdd, Nat.reduceSub, Nat.reduceLT, Nat.reduceMul, Nat.reducePow, Nat.reduceLeDiff, Int.reduceToNat, Int.reduceLE, Int.reduceLT, Int.reducePow, fA, fB, ↓app_last, set_last, hr, rep_len]
  obtain ⟨hp6, e6⟩ : ∃ hp6, hp6 = hp5 ++ [⟨true, bs (rtB n K (cpD D) Q).1⟩] := ⟨_, rfl⟩
  rw [← e6]
  have x6 : Ext hp5 hp6 := ⟨_, e6⟩
  have hst6 : stM hp6 := by rw [e6]; exact hst5.app (by intro x hx; rw [List.mem_singleton] at hx; subst hx; exact stL_bs _ _)
  have l6 : hp6.length = hp5.length + 1 := by simp [e6]
  have fT : hp6[hp5.length]? = some ⟨true, bs (rtB n K (cpD D) Q).1⟩ := by rw [e6]; exact at_app rfl
  replace fA := x6.get fA; replace f := f.mono x6; replace fR := x6.get fR; replace fB := x6.get fB; replace s4 := s4.mono x6
  have y6 := y5.trans x6
  clear e6
  simp only [↓VC, VP, TT, List.getElem?_toArray, Nat.reduceEqDiff, reduceCtorEq, Nat.reduceAdd, Nat.reduceSub, Nat.reduceLT, Nat.reduceMul, Nat.reducePow, Nat.reduceLeDiff, Int.reduceToNat, Int.reduceLE, Int.reduceLT, Int.reducePow, fR, hr]
  refine kCall_val (c_laws_eqDigest (rtB n K (cpD D) Q).1 (rtB n K (cpD D) Q).1 hr hr) (by rfl) [] (by simp [CALL]) (by simp [CALL]) (by simp [CALL]) (by simp) ?_
  simp only [CALL, ↓VC, VP, TT, List.getElem?_toArray, Nat.reduceEqDiff, reduceCtorEq, Nat.reduceAdd, Nat.reduceSub, Nat.reduceLT, Nat.reduceMul, Nat.reducePow, Nat.reduceLeDiff, Int.reduceToNat, Int.reduceLE, Int.reduceLT, Int.reducePow, fA, fB, beq_self_eq_true, Bool.not_true, bne_self_eq_false]
  refine kW_ret (by have := c_laws_toBlobs hst6.frz hK hc0 hn hc1 (by omega) hDq hc2 hQn f.frz; rw [frz_length] at this; exact this) (by rfl) (by simp [okL, okV]; omega) hst6.ok (fun _ => newS_own) fun _ hp7 _ e7 => ?_
  have x7 : Ext hp6 hp7 := ⟨_, e7⟩
  have s7 := newS_at e7
  have hst7 : stM hp7 := by rw [e7]; exact hst6.app newS_st
  have l7 : hp7.length = hp6.length + 3 + D.length := by rw [e7]; simp [newS, partB_length, bPs_length, cpD_length]; omega
  replace fA := x7.get fA; replace f := f.mono x7
  have y7 := y6.trans x7
  clear e7
  simp only [CALL, ↓VC, VP, TT, List.getElem?_toArray, Nat.reduceEqDiff, reduceCtorEq, Nat.reduceAdd, Nat.reduceSub, Nat.reduceLT, Nat.reduceMul, Nat.reducePow, Nat.reduceLeDiff, Int.reduceToNat, Int.reduceLE, Int.reduceLT, Int.reducePow]
  refine kW_val (by have := c_laws_eqBlobs hst7.frz hK (Nat.le_refl _) (Nat.le_refl _) hn (Nat.le_refl _) (Nat.le_refl _) (by rw [cpD_length]; omega) hDr (Nat.le_refl _) (Nat.le_refl _) hQn (s4.mono x7).frz s7.frz; rw [cpD_length] at this; exact this) (by rfl) (by simp [okL, okV]; omega) hst7.ok ?_
  simp only [CALL, ↓VC, VP, TT, List.getElem?_toArray, Nat.reduceEqDiff, reduceCtorEq, Nat.reduceAdd, Nat.reduceSub, Nat.reduceLT, Nat.reduceMul, Nat.reducePow, Nat.reduceLeDiff, Int.reduceToNat, Int.reduceLE, Int.reduceLT, Int.reducePow, Bool.not_true]
  exact fin y7
end Go.Proofs.Ytcfhdogmkbfnhaa
