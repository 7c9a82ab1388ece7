import Derived.Test.YtcfhdogmkbfnhaaAbsI
import Derived.Test.YtcfhdogmkbfnhaaDigSS
/- The laws' own helpers over absences. -/
set_option linter.unusedSimpArgs false
set_option linter.unusedVariables false
namespace Go.Proofs.Ytcfhdogmkbfnhaa
open Go Go.Vc
set_option maxRecDepth 10000
set_option maxHeartbeats 4000000
theorem okB_nestG {own : Bool} {D : List (List UInt8 × Nat)} {N : Nat} (hN : D.length + 1 ≤ N) : ∀ b ∈ (⟨false, ptrV 1 (dPs D)⟩ : Blk) :: partB own (dPs D), okL N b.cells := fun b hb => stL_ok (stB_nest (by rw [dPs_length]; omega) dPs_st b hb)
theorem okB_twoG {D : List (List UInt8 × Nat)} {N : Nat} (hN : D.length + D.length + 2 ≤ N) : ∀ b ∈ (⟨false, ptrV 2 (dPs D)⟩ : Blk) :: ⟨false, ptrV (D.length + 2) (dPs D)⟩ :: (partB false (dPs D) ++ partB false (dPs D)), okL N b.cells := fun b hb =>
  stL_ok (stB_cons (stL_ptrV (by rw [dPs_length]; omega)) (stB_cons (stL_ptrV (by rw [dPs_length]; omega)) (stB_app (stB_part dPs_st) (stB_part dPs_st))) b hb)
theorem dPs_ren {σ : List Nat} {D : List (List UInt8 × Nat)} : ∀ p ∈ dPs D, V.renL σ p.cells = p.cells := by
  intro p hp
  simp only [dPs, List.mem_map] at hp
  obtain ⟨q, _, rfl⟩ := hp
  exact renL_bs _ _
section
variable {H : List Blk} {m c1 c2 g1 g2 b : Nat} {K : List UInt8} {D : List (List UInt8 × Nat)}
/-- An absence's slices in the memory. -/
structure zAt (H : List Blk) (g1 g2 b : Nat) (K : List UInt8) (D : List (List UInt8 × Nat)) : Prop where
  k : bAt H g1 (bs K)
  d : nAt H g2 b (dPs D)
theorem zAt.mono {H H2 : List Blk} (h : zAt H g1 g2 b K D) (x : Ext H H2) : zAt H2 g1 g2 b K D := ⟨h.k.mono x, h.d.mono x⟩
theorem zAt.frz {H : List Blk} (h : zAt H g1 g2 b K D) : zAt (frz H) g1 g2 b K D := ⟨h.k.frz, h.d.frz⟩
theorem c_laws_szAbsence (z : Int) (hst : stM H) (hK : K.length = 32 * m) (hc1 : m ≤ c1) (m1 : c1 ≤ maxLen) (hc2 : D.length ≤ c2) (m2 : c2 ≤ maxLen) (hL : ∀ p ∈ D, p.1.length = 32 * (p.1.length / 32) ∧ p.1.length / 32 ≤ p.2 ∧ p.1.length / 32 ≤ maxLen) (f : zAt H g1 g2 b K D) :
    LC Try.prog 51 [.a [.c (.int .i64 (z)), .s g1 0 m c1, .s g2 0 D.length c2], .c (.int .i64 (1048576))] H (Ret H (fun z : Int => 0 ≤ z → m ≤ 1048576 ∧ D.length + sumG D ≤ 1048576) fun z => (.c (.int .i64 (z)), [])) := by
  have fin : ∀ {hp : List Blk} {z : Int}, (0 ≤ z → m ≤ 1048576 ∧ D.length + sumG D ≤ 1048576) → Ext H hp → ∃ (v' : V) (hp' : List Blk) (σ : List Nat), (∃ x : Int, (0 ≤ x → m ≤ 1048576 ∧ D.length + sumG D ≤ 1048576) ∧ v' = .c (.int .i64 (x)) ∧ hp' = H ++ []) ∧ LeS H.length σ [.c (.int .i64 (z))] hp [v'] hp' := fun {_ z} hz x => ⟨_, _, List.range H.length, ⟨z, hz, rfl, (List.append_nil H).symm⟩, LeS_mem rfl x (by simp [leT]) (by simp [stL, stV]) hst⟩
  refine LC_of (X := XX (fun _ => .nil) (fun _ => []) [19, 20, 48, 49, 59, 72, 93, 112, 174] (H.length)) envOK Try.func51 (by kernel_rfl) (by kernel_rfl) (by simp [XX]) (Nat.le_of_ble_eq_true (by kernel_rfl)) ?_
  simp only [kFun, Try.f51, List.length_nil, List.length_cons, Nat.sub_zero, Nat.reduceSub, Nat.reduceAdd, List.nil_append, List.cons_append, List.replicate_succ, List.replicate_zero]
  simp only [XX, ↓VC, VP, TT, List.getElem?_toArray, Nat.reduceEqDiff, reduceCtorEq, Nat.reduceAdd, Nat.reduceSub, Nat.reduceLT, Nat.reduceMul, Nat.reducePow, Nat.reduceLeDiff, Int.reduceToNat, Int.reduceLE, Int.reduceLT, Int.reducePow, ↓app_last]
  have hPn := dPs_length D
  have x1 : ∀ x, Ext H (H ++ [x]) := fun x => ⟨_, rfl⟩
  refine kCall_val (c_laws_szDigestS m c1 1048576 K hK hc1 (by omega) (by omega)) (by rfl) [(g1, 0)] (by simp [CALL]) (seg_bAt (f.k.mono (x1 _)) (instL_bs _ _ _) trivial) (by simp [okL, okV]) (by simp [okL_bs]) ?_
  simp only [CALL, ↓VC, VP, TT, List.getElem?_toArray, Nat.reduceEqDiff, reduceCtorEq, Nat.reduceAdd, Nat.reduceSub, Nat.reduceLT, Nat.reduceMul, Nat.reducePow, Nat.reduceLeDiff, Int.reduceToNat, Int.reduceLE, Int.reduceLT, Int.reducePow, ↓app_last]
  refine ⟨fun h => fin (fun hz => by omega) (x1 _), fun h => ?_⟩
  have hn : m ≤ 1048576 := by
    by_cases h' : m ≤ 1048576
    · exact h'
    · rw [if_neg h'] at h; omega
  rw [if_pos hn, show ((1048576 : Nat) : Int) - (m : Int) = ((1048576 - m : Nat) : Int) by omega]
  refine kCall_val (c_laws_szDigestSS D c2 (1048576 - m) (by omega) hL (by omega)) (by rfl) ((g2, 0) :: rng b D.length) (by simp [CALL]) (seg_nAt0 (f.d.mono (x1 _)) hPn dPs_id) (by simp [okL, okV]) (okB_nestG (by simp [partB_length, hPn])) ?_
  simp only [CALL, ↓VC, VP, TT, List.getElem?_toArray, Nat.reduceEqDiff, reduceCtorEq, Nat.reduceAdd, Nat.reduceSub, Nat.reduceLT, Nat.reduceMul, Nat.reducePow, Nat.reduceLeDiff, Int.reduceToNat, Int.reduceLE, Int.reduceLT, Int.reducePow, ↓app_last]
  refine ⟨fun h => fin (fun hz => by omega) (x1 _), fun h2 => ?_⟩
  have hS : D.length + sumG D ≤ 1048576 - m := by
    by_cases h' : D.length + sumG D ≤ 1048576 - m
    · exact h'
    · rw [if_neg h'] at h2; omega
  exact fin (fun _ => by omega) (x1 _)
/-- What a copy of an absence lays behind the memory. -/
def newZ (N : Nat) (K : List UInt8) (D : List (List UInt8 × Nat)) : List Blk := ⟨true, bs K⟩ :: ⟨true, ptrV (N + 2) (dPs (cpG D))⟩ :: partB true (dPs (cpG D))
theorem newZ_len {N : Nat} : (newZ N K D).length = 2 + D.length := by simp [newZ, partB_length, dPs_length, cpG_length]; omega
theorem newZ_at {H H2 : List Blk} (e : H2 = H ++ newZ H.length K D) : zAt H2 H.length (H.length + 1) (H.length + 2) K (cpG D) := by
  subst e
  refine ⟨bAt_of (at_app rfl), ⟨?_, fun i p hp => ?_⟩⟩
  · have e : H ++ newZ H.length K D = (H ++ [⟨true, bs K⟩]) ++ (newZ H.length K D).tail := by simp [newZ]
    rw [e]; exact bAt_of (at_app (by simp))
  · have e : H ++ newZ H.length K D = (H ++ [⟨true, bs K⟩, ⟨true, ptrV (H.length + 2) (dPs (cpG D))⟩]) ++ (partB true (dPs (cpG D)) ++ []) := by simp [newZ]
    rw [e]; exact bAt_of (at_part (by simp) hp)
theorem newZ_st {N : Nat} : ∀ x ∈ newZ N K D, stL (N + (newZ N K D).length) x.cells := by
  rw [newZ_len]
  exact stB_cons (stL_bs _ _) (stB_cons (stL_ptrV (by rw [dPs_length, cpG_length]; omega)) (stB_part dPs_st))
theorem newZ_own {N : Nat} : ∀ x ∈ newZ N K D, x.own = true ∨ x.cells = [] := by
  intro x hx
  simp only [newZ, List.mem_cons, partB, List.mem_map] at hx
  rcases hx with rfl | rfl | ⟨p, _, rfl⟩ <;> exact .inl rfl
theorem c_laws_toAbsence (z : Int) (hst : stM H) (hK : K.length = 32 * m) (hc1 : m ≤ c1) (hm : m ≤ 1048576) (hc2 : D.length ≤ c2) (hDn : D.length ≤ 1048576) (hL : ∀ p ∈ D, p.1.length = 32 * (p.1.length / 32) ∧ p.1.length / 32 ≤ p.2 ∧ p.1.length / 32 ≤ 1048576) (f : zAt H g1 g2 b K D) :
    LC Try.prog 54 [.a [.c (.int .i64 (z)), .s g1 0 m c1, .s g2 0 D.length c2]] H (Ret H (fun _ : Unit => True) fun _ => (.a [.c (.int .i64 (z)), .s H.length 0 m m, .s (H.length + 1) 0 D.length D.length], newZ H.length K D)) := by
  have hPn := dPs_length D
  have hQ2 : (dPs (cpG D)).length = D.length := by rw [dPs_length, cpG_length]
  refine LC_of (X := XX (fun _ => .nil) (fun _ => []) [19, 20, 48, 49, 59, 72, 93, 112, 174] (H.length)) envOK Try.func54 (by kernel_rfl) (by kernel_rfl) (by simp [XX]) (Nat.le_of_ble_eq_true (by kernel_rfl)) ?_
  simp only [kFun, Try.f54, List.length_nil, List.length_cons, Nat.sub_zero, Nat.reduceSub, Nat.reduceAdd, List.nil_append, List.cons_append, List.replicate_succ, List.replicate_zero]
  simp only [XX, ↓VC, VP, TT, List.getElem?_toArray, Nat.reduceEqDiff, reduceCtorEq, Nat.reduceAdd, Nat.reduceSub, Nat.reduceLT, Nat.reduceMul, Nat.reducePow, Nat.reduceLeDiff, Int.reduceToNat, Int.reduceLE, Int.reduceLT, Int.reducePow]
  obtain ⟨hp1, e1⟩ : ∃ hp1, hp1 = H ++ [⟨true, [.c (.int .i64 (z)), V.s g1 0 m c1, V.s g2 0 D.length c2]⟩] ++ [⟨true, [.c (.int .i64 (0)), V.c (.slice none 0 0), V.c (.slice none 0 0)]⟩] ++ [⟨true, [.c (.int .i64 (0)), V.c (.slice none 0 0), V.c (.slice none 0 0)]⟩] := ⟨_, rfl⟩
  rw [← e1]
  have x1 : Ext H hp1 := ⟨_, by rw [e1, List.append_assoc, List.append_assoc]⟩
  have l1 : hp1.length = H.length + 3 := by simp [e1]
  have fA : hp1[H.length]? = some ⟨true, [.c (.int .i64 (z)), V.s g1 0 m c1, V.s g2 0 D.length c2]⟩ := by rw [e1]; exact app_3a
  have fU : hp1[H.length + 1]? = some ⟨true, [.c (.int .i64 (0)), V.c (.slice none 0 0), V.c (.slice none 0 0)]⟩ := by rw [e1]; exact app_3b
  have fV : hp1[H.length + 1 + 1]? = some ⟨true, [.c (.int .i64 (0)), V.c (.slice none 0 0), V.c (.slice none 0 0)]⟩ := by rw [e1]; exact app_3c
  clear e1
  simp only [↓VC, VP, TT, List.getElem?_toArray, Nat.reduceEqDiff, reduceCtorEq, Nat.reduceAdd, Nat.reduceSub, Nat.reduceLT, Nat.reduceMul, Nat.reducePow, Nat.reduceLeDiff, Int.reduceToNat, Int.reduceLE, Int.reduceLT, Int.reducePow, fA, fV]
  obtain ⟨hp2, e2⟩ : ∃ hp2, hp2 = hp1.set (H.length + 1 + 1) ⟨true, [.c (.int .i64 (z)), V.c (.slice none 0 0), V.c (.slice none 0 0)]⟩ := ⟨_, rfl⟩
  have u2 := set_upd (b := ⟨true, [.c (.int .i64 (z)), V.c (.slice none 0 0), V.c (.slice none 0 0)]⟩) fV
  replace fV := set_at (b := ⟨true, [.c (.int .i64 (z)), V.c (.slice none 0 0), V.c (.slice none 0 0)]⟩) fV
  have l2 : hp2.length = H.length + 3 := by rw [e2, List.length_set, l1]
  rw [← e2] at u2 fV
  replace fA := u2.get (by omega) fA; replace fU := u2.get (by omega) fU; replace x1 := x1.uext u2 (by intro h hh; omega)
  rw [← e2]
  clear e2 u2
  simp only [↓VC, VP, TT, List.getElem?_toArray, Nat.reduceEqDiff, reduceCtorEq, Nat.reduceAdd, Nat.reduceSub, Nat.reduceLT, Nat.reduceMul, Nat.reducePow, Nat.reduceLeDiff, Int.reduceToNat, Int.reduceLE, Int.reduceLT, Int.reducePow, fA]
  refine kA_ret (c_laws_toDigestS m c1 K hK hc1 hm) (by rfl) [(g1, 0)] (by simp [CALL]) (seg_bAt (f.k.mono x1) (instL_bs _ _ _) trivial) (by simp [okL, okV]) (by simp [okL_bs]) (by simp) fun _ N3 hp3 _ eN3 e3 => ?_
  simp only [List.map_cons, List.map_nil, instL_bs] at e3
  have x3 := new_ext e3
  have fK : hp3[N3]? = some ⟨true, bs K⟩ := new_at (R := []) eN3 e3
  have l3 : hp3.length = H.length + 4 := by rw [e3]; simp [l2]
  replace fA := x3.get fA; replace fU := x3.get fU; replace fV := x3.get fV; replace x1 := x1.trans x3
  clear e3 x3
  simp only [CALL, ↓VC, VP, TT, List.getElem?_toArray, Nat.reduceEqDiff, reduceCtorEq, Nat.reduceAdd, Nat.reduceSub, Nat.reduceLT, Nat.reduceMul, Nat.reducePow, Nat.reduceLeDiff, Int.reduceToNat, Int.reduceLE, Int.reduceLT, Int.reducePow, fV]
  obtain ⟨hp4, e4⟩ : ∃ hp4, hp4 = hp3.set (H.length + 1 + 1) ⟨true, [.c (.int .i64 (z)), V.s N3 0 m m, V.c (.slice none 0 0)]⟩ := ⟨_, rfl⟩
  have u4 := set_upd (b := ⟨true, [.c (.int .i64 (z)), V.s N3 0 m m, V.c (.slice none 0 0)]⟩) fV
  replace fV := set_at (b := ⟨true, [.c (.int .i64 (z)), V.s N3 0 m m, V.c (.slice none 0 0)]⟩) fV
  have l4 : hp4.length = H.length + 4 := by rw [e4, List.length_set, l3]
  rw [← e4] at u4 fV
  replace fA := u4.get (by omega) fA; replace fU := u4.get (by omega) fU; replace fK := u4.get (by omega) fK; replace x1 := x1.uext u4 (by intro h hh; omega)
  rw [← e4]
  clear e4 u4
  simp only [↓VC, VP, TT, List.getElem?_toArray, Nat.reduceEqDiff, reduceCtorEq, Nat.reduceAdd, Nat.reduceSub, Nat.reduceLT, Nat.reduceMul, Nat.reducePow, Nat.reduceLeDiff, Int.reduceToNat, Int.reduceLE, Int.reduceLT, Int.reducePow, fA]
  refine kA_ret (c_laws_toDigestSS D c2 hc2 hDn hL) (by rfl) ((g2, 0) :: rng b D.length) (by simp [CALL]) (seg_nAt0 (f.d.mono x1) hPn dPs_id) (by simp [okL, okV]) (okB_nestG (by simp [partB_length, hPn])) (fun _ => own_nest) fun _ N5 hp5 _ eN5 e5 => ?_
  rw [inst_nest (by simp [rng_length]) (fun p hp => dPs_id _ _ p hp)] at e5
  have x5 := new_ext e5
  have fP : hp5[N5]? = some ⟨true, ptrV (N5 + 1) (dPs (cpG D))⟩ := new_at eN5 e5
  have o5 := new_own eN5 e5
  have l5 : hp5.length = H.length + 5 + D.length := by rw [e5]; simp [partB_length, hQ2, l4]; omega
  replace fA := x5.get fA; replace fU := x5.get fU; replace fV := x5.get fV; replace fK := x5.get fK; replace x1 := x1.trans x5
  clear e5 x5
  simp only [CALL, ↓VC, VP, TT, List.getElem?_toArray, Nat.reduceEqDiff, reduceCtorEq, Nat.reduceAdd, Nat.reduceSub, Nat.reduceLT, Nat.reduceMul, Nat.reducePow, Nat.reduceLeDiff, Int.reduceToNat, Int.reduceLE, Int.reduceLT, Int.reducePow, fV, rng_length, rng_end]
  obtain ⟨hp7, e7⟩ : ∃ hp7, hp7 = hp5.set (H.length + 1 + 1) ⟨true, [.c (.int .i64 (z)), V.s N3 0 m m, V.s N5 0 D.length D.length]⟩ := ⟨_, rfl⟩
  have u7 := set_upd (b := ⟨true, [.c (.int .i64 (z)), V.s N3 0 m m, V.s N5 0 D.length D.length]⟩) fV
  replace fV := set_at (b := ⟨true, [.c (.int .i64 (z)), V.s N3 0 m m, V.s N5 0 D.length D.length]⟩) fV
  have l7 : hp7.length = H.length + 5 + D.length := by rw [e7, List.length_set, l5]
  rw [← e7] at u7 fV
  replace fA := u7.get (by omega) fA; replace fU := u7.get (by omega) fU; replace fK := u7.get (by omega) fK; replace fP := u7.get (by omega) fP; replace x1 := x1.uext u7 (by intro h hh; omega)
  replace o5 : ∀ i p, (dPs (cpG D))[i]? = some p → hp7[N5 + 1 + i]? = some ⟨true, p.cells⟩ := fun i p hp => u7.get (by omega) (o5 i p hp)
  rw [← e7]
  clear e7 u7
  simp only [↓VC, VP, TT, List.getElem?_toArray, Nat.reduceEqDiff, reduceCtorEq, Nat.reduceAdd, Nat.reduceSub, Nat.reduceLT, Nat.reduceMul, Nat.reducePow, Nat.reduceLeDiff, Int.reduceToNat, Int.reduceLE, Int.reduceLT, Int.reducePow, fV, fU]
  obtain ⟨hp8, e8⟩ : ∃ hp8, hp8 = hp7.set (H.length + 1) ⟨true, [.c (.int .i64 (z)), V.s N3 0 m m, V.s N5 0 D.length D.length]⟩ := ⟨_, rfl⟩
  have u8 := set_upd (b := ⟨true, [.c (.int .i64 (z)), V.s N3 0 m m, V.s N5 0 D.length D.length]⟩) fU
  replace fU := set_at (b := ⟨true, [.c (.int .i64 (z)), V.s N3 0 m m, V.s N5 0 D.length D.length]⟩) fU
  have l8 : hp8.length = H.length + 5 + D.length := by rw [e8, List.length_set, l7]
  rw [← e8] at u8 fU
  replace fK := u8.get (by omega) fK; replace fP := u8.get (by omega) fP; replace x1 := x1.uext u8 (by intro h hh; omega)
  replace o5 : ∀ i p, (dPs (cpG D))[i]? = some p → hp8[N5 + 1 + i]? = some ⟨true, p.cells⟩ := fun i p hp => u8.get (by omega) (o5 i p hp)
  rw [← e8]
  clear e8 u8
  simp only [↓VC, VP, TT, List.getElem?_toArray, Nat.reduceEqDiff, reduceCtorEq, Nat.reduceAdd, Nat.reduceSub, Nat.reduceLT, Nat.reduceMul, Nat.reducePow, Nat.reduceLeDiff, Int.reduceToNat, Int.reduceLE, Int.reduceLT, Int.reducePow, fU]
  refine ⟨_, _, List.range H.length ++ ([N3, N5] ++ List.range' (N5 + 1) D.length), ⟨(), trivial, rfl, rfl⟩, ?_⟩
  have hr : V.renL (List.range H.length ++ ([N3, N5] ++ List.range' (N5 + 1) D.length)) (ptrV (H.length + 2) (dPs (cpG D))) = ptrV (N5 + 1) (dPs (cpG D)) := renL_ptrV fun i hi => by
    rw [Nat.add_assoc, range_getD_ge, List.getD_eq_getElem?_getD, List.getElem?_append_right (by simp), ← List.getD_eq_getElem?_getD]
    have e : 2 + i - [N3, N5].length = i := by simp
    rw [e, getD_range' (by rw [hQ2] at hi; exact hi)]
  exact LeS_new (B := [⟨true, bs K⟩, ⟨true, ptrV (H.length + 2) (dPs (cpG D))⟩]) rfl x1 hst (Nat.le_refl _) rfl (by simp; omega) (by simp; omega) (by omega) hQ2 o5 (fun _ => dPs_ren) (fun _ p hp => stL_ok (dPs_st p hp))
    (by simp [leTm, leV, V.ren, V.renL, range_getD_ge, range_getD_eq]) (by simp only [leHp, fK, fP, hr, renL_bs]; simp) (by simp [okL, okV]; omega) (by simp [okL_bs]; exact stL_ok (stL_ptrV (by rw [hQ2]; omega)))
/-- Two absences of the same content. -/
theorem c_laws_eqAbsence {c1' c2' k1 k2 b' : Nat} (z : Int) (hst : stM H) (hK : K.length = 32 * m) (hc1 : m ≤ c1) (hc1' : m ≤ c1') (hm : m ≤ 1048576) (hc2 : D.length ≤ c2) (hc2' : D.length ≤ c2') (hDn : D.length ≤ 1048576) (hL : ∀ p ∈ D, p.1.length = 32 * (p.1.length / 32) ∧ p.1.length / 32 ≤ p.2 ∧ p.1.length / 32 ≤ 1048576) (f : zAt H g1 g2 b K D) (f' : zAt H k1 k2 b' K D) :
    LC Try.prog 56 [.a [.c (.int .i64 (z)), .s g1 0 m c1, .s g2 0 D.length c2], .a [.c (.int .i64 (z)), .s k1 0 m c1', .s k2 0 D.length c2']] H (fun v hp => v = .c (.bool (true)) ∧ hp = H) := by
  have hPn := dPs_length D
  refine LC_of (X := XX (fun _ => .nil) (fun _ => []) [19, 20, 48, 49, 59, 72, 93, 112, 174] (H.length)) envOK Try.func56 (by kernel_rfl) (by kernel_rfl) (by simp [XX]) (Nat.le_of_ble_eq_true (by kernel_rfl)) ?_
  simp only [kFun, Try.f56, List.length_nil, List.length_cons, Nat.sub_zero, Nat.reduceSub, Nat.reduceAdd, List.nil_append, List.cons_append, List.replicate_succ, List.replicate_zero]
  simp only [XX, ↓VC, VP, TT, List.getElem?_toArray, Nat.reduceEqDiff, reduceCtorEq, Nat.reduceAdd, Nat.reduceSub, Nat.reduceLT, Nat.reduceMul, Nat.reducePow, Nat.reduceLeDiff, Int.reduceToNat, Int.reduceLE, Int.reduceLT, Int.reducePow]
  have x1 : Ext H (H ++ [⟨true, [.c (.int .i64 (z)), V.s g1 0 m c1, V.s g2 0 D.length c2]⟩] ++ [⟨true, [.c (.int .i64 (z)), V.s k1 0 m c1', V.s k2 0 D.length c2']⟩]) := ⟨_, by rw [List.append_assoc]⟩
  have hll : ∀ x, (H ++ [x]).length = H.length + 1 := fun x => by simp
  simp only [↓VC, VP, TT, List.getElem?_toArray, Nat.reduceEqDiff, reduceCtorEq, Nat.reduceAdd, Nat.reduceSub, Nat.reduceLT, Nat.reduceMul, Nat.reducePow, Nat.reduceLeDiff, Int.reduceToNat, Int.reduceLE, Int.reduceLT, Int.reducePow, hll, ↓app_last2, ↓app_last1, bne_self_eq_false]
  refine kCall_val (c_laws_eqDigestS m m c1 c1' K K hK hK hc1 hc1' hm) (by rfl) [(g1, 0), (k1, 0)] (by simp [CALL]) (seg_bAt (f.k.mono x1) (instL_bs _ _ _) (seg_bAt (f'.k.mono x1) (instL_bs _ _ _) trivial)) (by simp [okL, okV]) (by simp [okL_bs]) ?_
  simp only [CALL, ↓VC, VP, TT, List.getElem?_toArray, Nat.reduceEqDiff, reduceCtorEq, Nat.reduceAdd, Nat.reduceSub, Nat.reduceLT, Nat.reduceMul, Nat.reducePow, Nat.reduceLeDiff, Int.reduceToNat, Int.reduceLE, Int.reduceLT, Int.reducePow, beq_self_eq_true, Bool.not_true, ↓app_last2, ↓app_last1]
  refine kCall_val (c_laws_eqDigestSS D c2 c2' hc2 hc2' hDn hL) (by rfl) ((g2, 0) :: (k2, 0) :: (rng b D.length ++ rng b' D.length)) (by simp [CALL]) (seg_two (f.d.mono x1) (f'.d.mono x1) hPn dPs_id) (by simp [okL, okV]) (okB_twoG (by simp [partB_length, hPn])) ?_
  simp only [CALL, ↓VC, VP, TT, List.getElem?_toArray, Nat.reduceEqDiff, reduceCtorEq, Nat.reduceAdd, Nat.reduceSub, Nat.reduceLT, Nat.reduceMul, Nat.reducePow, Nat.reduceLeDiff, Int.reduceToNat, Int.reduceLE, Int.reduceLT, Int.reducePow, beq_self_eq_true, Bool.not_true, ↓app_last2, ↓app_last1]
  exact ⟨_, _, List.range H.length, ⟨rfl, rfl⟩, LeS_mem rfl x1 (by simp [leT]) (by simp [stL, stV]) hst⟩
end
end Go.Proofs.Ytcfhdogmkbfnhaa
