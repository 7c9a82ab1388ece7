import Derived.Test.YtapagcnipdpfiaaVcgR
import Derived.Test.YtapagcnipdpfiaaByteSS
import Derived.Test.YtapagcnipdpfiaaDigSS
import Derived.Test.YtapagcnipdpfiaaMarkD
import Derived.Test.YtapagcnipdpfiaaFieldM
/- The laws' helpers over slices of slices of digests, two lists of different room; marks. -/
set_option linter.unusedSimpArgs false
set_option linter.unusedVariables false
namespace Go.Proofs.Ytapagcnipdpfiaa
open Go Go.Vc
set_option maxRecDepth 10000
set_option maxHeartbeats 4000000
theorem c_laws_eqDigestSS2 (D E' : List (List UInt8 × Nat)) (hDE : D.map (·.1) = E'.map (·.1)) (c1 c2 : Nat) (hc1 : D.length ≤ c1) (hc2 : D.length ≤ c2) (hm : D.length ≤ 1048576) (hp : ∀ p ∈ D, p.1.length = 32 * (p.1.length / 32) ∧ p.1.length / 32 ≤ p.2 ∧ p.1.length / 32 ≤ 1048576) (hq : ∀ p ∈ E', p.1.length = 32 * (p.1.length / 32) ∧ p.1.length / 32 ≤ p.2 ∧ p.1.length / 32 ≤ 1048576) : LC Try.prog 80 [.s 0 0 D.length c1, .s 1 0 D.length c2] (⟨false, ptrV 2 (dPs D)⟩ :: ⟨false, ptrV (D.length + 2) (dPs E')⟩ :: (partB false (dPs D) ++ partB false (dPs E')))
    (fun v hp => v = .c (.bool (true)) ∧ hp = (⟨false, ptrV 2 (dPs D)⟩ :: ⟨false, ptrV (D.length + 2) (dPs E')⟩ :: (partB false (dPs D) ++ partB false (dPs E')))) := by
  have hlE : E'.length = D.length := by have := congrArg List.length hDE; simpa using this.symm
  refine LC_of (X := XX (fun | 6 => .one 0 (.one 1 (.one 2 (.one 3 (.one 4 (.one 5 (.one 6 (.one 7 (.one 8 (.one 9 .nil))))))))) | _ => .nil) (fun _ => []) [25, 33, 34, 61, 62, 82, 87, 112, 119, 141] (D.length + D.length + 2)) envOK Try.func80 (by kernel_rfl) (by kernel_rfl) (by simp [XX, partB_length, dPs_length, hlE]) (Nat.le_of_ble_eq_true (by kernel_rfl)) ?_
  simp only [kFun, Try.f80, List.length_nil, List.length_cons, Nat.sub_zero, Nat.reduceSub, Nat.reduceAdd, List.nil_append, List.cons_append, List.replicate_succ, List.replicate_zero]
  simp only [XX, ↓VC, VP, TT, List.getElem?_toArray, Nat.reduceEqDiff, reduceCtorEq, Nat.reduceAdd, Nat.reduceSub, Nat.reduceLT, Nat.reduceMul, Nat.reducePow, Nat.reduceLeDiff, Int.reduceToNat, Int.reduceLE, Int.reduceLT, Int.reducePow, partB_length, dPs_length, hlE, bne_self_eq_false]
  have hPn := dPs_length D
  have hPs : ∀ {N : Nat}, ∀ p ∈ dPs D, stL N p.cells := fun {N} => dPs_st
  have hQn : (dPs E').length = D.length := by rw [dPs_length, hlE]
  have hQs : ∀ {N : Nat}, ∀ p ∈ dPs E', stL N p.cells := fun {N} => dPs_st
  generalize hP : dPs D = P at *
  generalize hQ : dPs E' = Q at *
  refine kLoop_of (fun i : Nat => ([.s 0 0 D.length c1, .s 1 0 D.length c2, .j, .j, .j, .c (.int .i64 (i)), .j, .j, .j, .j, .j, .j, .j, .j, .j, .j, .j, .j, .j, .j, .j, .j, .j, .j, .j, .j, .j], (⟨false, ptrV 2 P⟩ :: ⟨false, ptrV (D.length + 2) Q⟩ :: (partB false P ++ partB false Q)))) (fun i => D.length - i) (fun i => i ≤ D.length) 0 (by omega) ⟨List.range (D.length + D.length + 2), ?_⟩ ?_
  · refine LeS_id (ex := []) (by simp [partB_length, hPn, hQn]) (Nat.le_refl _) (by simp) (by simp [leT]) (by simp [stL, stV]) ?_
    exact stB_cons (stL_ptrV (by omega)) (stB_cons (stL_ptrV (by omega)) (stB_app (stB_part hPs) (stB_part hQs)))
  intro i hi
  rcases Nat.lt_or_ge i D.length with h1 | h1
  · have hpi : D[i]? = some D[i] := List.getElem?_eq_getElem h1
    generalize D[i] = p at hpi
    have hL : P[i]? = some (dP p) := by rw [← hP]; exact dPs_get hpi
    have hqi : E'[i]? = some (p.1, (E'.getD i default).2) := by
      have e1 : E'[i]? = some E'[i] := List.getElem?_eq_getElem (by omega)
      have e2 : (D.map (·.1))[i]? = (E'.map (·.1))[i]? := by rw [hDE]
      rw [List.getElem?_map, List.getElem?_map, hpi, e1] at e2
      simp only [Option.map_some, Option.some.injEq] at e2
      rw [e1, List.getD_eq_getElem?_getD, e1, e2]; rfl
    generalize (E'.getD i default).2 = cq at hqi
    have hM : Q[i]? = some (dP (p.1, cq)) := by rw [← hQ]; exact dPs_get hqi
    obtain ⟨_, hq1, _⟩ := hq _ (List.mem_of_getElem? hqi)
    obtain ⟨hq0, hp1, hp2⟩ := hp p (List.mem_of_getElem? hpi)
    have hlk : ∀ R, ((⟨false, ptrV 2 P⟩ : Blk) :: ⟨false, ptrV (D.length + 2) Q⟩ :: (partB false P ++ R))[i + 2]? = some ⟨false, bs p.1⟩ := fun R => partB_get hL
    have hlk2 : ((⟨false, ptrV 2 P⟩ : Blk) :: ⟨false, ptrV (D.length + 2) Q⟩ :: (partB false P ++ partB false Q))[D.length + i + 2]? = some ⟨false, bs p.1⟩ := by
      show (partB false P ++ partB false Q)[D.length + i]? = _
      rw [partB_skip hPn]; exact partB_get0 hM
    have hi2 : 2 + i = i + 2 := by omega
    have hi3 : D.length + 2 + i = D.length + i + 2 := by omega
    simp only [↓VC, VP, TT, List.getElem?_toArray, Nat.reduceEqDiff, reduceCtorEq, Nat.reduceAdd, Nat.reduceSub, Nat.reduceLT, Nat.reduceMul, Nat.reducePow, Nat.reduceLeDiff, Int.reduceToNat, Int.reduceLE, Int.reduceLT, Int.reducePow, (eq_true (by omega) : ((i : Int) < (D.length : Int)) = True), decide_true, ↓vGet_ptrV0 hL, ↓vGet_ptrV0 hM, dP, ptrV_length, hPn, hQn, hi2, hi3]
    have hg1 : i < D.length + D.length := by omega
    refine kCall_val (c_laws_eqDigestS (p.1.length / 32) (p.1.length / 32) p.2 cq p.1 p.1 hq0 hq0 hp1 hq1 hp2) (by rfl) [(i + 2, 0), (D.length + i + 2, 0)] (by simp [CALL, cellsAt, tk, take_room, bs_length, bs_nil, ptrV_length, partB_length, dPs_length, stL, ↓hlk, ↓hlk2, h1, hg1, hPn, hQn]) (by simp [CALL, cellsAt, tk, take_room, bs_length, bs_nil, ptrV_length, partB_length, dPs_length, stL, ↓hlk, ↓hlk2, h1, hg1, hPn, hQn]) (by simp [CALL, cellsAt, tk, take_room, bs_length, bs_nil, ptrV_length, partB_length, dPs_length, stL, ↓hlk, ↓hlk2, h1, hg1, hPn, hQn]) (by simp [okL_bs, okL_room, okL, okV, ptrV_length, partB_length, dPs_length, stL, ↓hlk, ↓hlk2, h1, hg1, hPn, hQn]) ?_
    simp (config := { maxSteps := 2000000 }) only [CALL, ↓VC, VP, TT, List.getElem?_toArray, Nat.reduceEqDiff, reduceCtorEq, Nat.reduceAdd, Nat.reduceSub, Nat.reduceLT, Nat.reduceMul, Nat.reducePow, Nat.reduceLeDiff, Int.reduceToNat, Int.reduceLE, Int.reduceLT, Int.reducePow, instL_room, Bool.not_true, Bool.not_false, ptrV_length, partB_length, dPs_length, dP, beq_self_eq_true, Bool.not_true]
    refine ⟨i + 1, by omega, by omega, List.range (D.length + D.length + 2), ?_⟩
    rw [wrap_i64 (by omega) (by omega)]
    refine LeS_id (ex := []) (by simp [partB_length, hPn, hQn]) (Nat.le_refl _) (by simp) (by simp [leT]) (by simp [stL, stV]) ?_
    exact stB_cons (stL_ptrV (by omega)) (stB_cons (stL_ptrV (by omega)) (stB_app (stB_part hPs) (stB_part hQs)))
  · obtain rfl : i = D.length := by omega
    simp only [↓VC, VP, TT, List.getElem?_toArray, Nat.reduceEqDiff, reduceCtorEq, Nat.reduceAdd, Nat.reduceSub, Nat.reduceLT, Nat.reduceMul, Nat.reducePow, Nat.reduceLeDiff, Int.reduceToNat, Int.reduceLE, Int.reduceLT, Int.reducePow, (eq_false (by omega) : ((D.length : Int) < (D.length : Int)) = False), decide_false]
    refine ⟨_, _, List.range (D.length + D.length + 2), ⟨rfl, rfl⟩, ?_⟩
    refine LeS_id (ex := []) (by simp [partB_length, hPn, hQn]) (Nat.le_refl _) (by simp) (by simp [leT]) (by simp [stL, stV]) ?_
    exact stB_cons (stL_ptrV (by omega)) (stB_cons (stL_ptrV (by omega)) (stB_app (stB_part hPs) (stB_part hQs)))
/-- Parts of digests with room for p.2 more. -/
def rP (p : List UInt8 × Nat) : Prt := ⟨bs p.1 ++ List.replicate (32 * p.2) .j, p.1.length / 32, p.1.length / 32 + p.2⟩
def rPs (D : List (List UInt8 × Nat)) : List Prt := D.map rP
theorem rPs_length (D : List (List UInt8 × Nat)) : (rPs D).length = D.length := by simp [rPs]
theorem rPs_get {D : List (List UInt8 × Nat)} {i : Nat} {p : List UInt8 × Nat} (h : D[i]? = some p) : (rPs D)[i]? = some (rP p) := by
  rw [rPs, List.getElem?_map, h]; rfl
theorem rPs_st {N : Nat} {D : List (List UInt8 × Nat)} : ∀ p ∈ rPs D, stL N p.cells := by
  intro p hp
  simp only [rPs, List.mem_map] at hp
  obtain ⟨q, _, rfl⟩ := hp
  exact stL_app.2 ⟨stL_bs _ _, stL_rep _ _⟩
theorem partB_rPs_set {own : Bool} {L : List (List UInt8 × Nat)} {i : Nat} {x : List UInt8 × Nat} : (partB own (rPs L)).set i ⟨own, bs x.1 ++ List.replicate (32 * x.2) .j⟩ = partB own (rPs (L.set i x)) := by
  simp [partB, rPs, List.map_set, rP]
theorem c_laws_markDigestSS (D : List (List UInt8 × Nat)) (c k : Nat) (hc : D.length ≤ c) (hm : D.length ≤ 1048576) (hp : ∀ p ∈ D, p.1.length = 32 * (p.1.length / 32) ∧ p.1.length ≤ 1048576) (hk : k + sumD D ≤ 4294967296) : LC Try.prog 82 [.s 0 0 D.length c, .c (.int .i64 ((k : Nat)))] (⟨false, ptrV 1 (rPs D)⟩ :: partB true (rPs D))
    (RetM (fun _ : Unit => True) fun _ => (.c (.int .i64 ((k + sumD D : Nat))), ⟨false, ptrV 1 (rPs D)⟩ :: partB true (rPs (mkD k D)), [])) := by
  have hPn := rPs_length D
  refine LC_of (X := XX (fun _ => .nil) (fun _ => []) [25, 33, 34, 61, 62, 82, 87, 112, 119, 141] (D.length + 1)) envOK Try.func82 (by kernel_rfl) (by kernel_rfl) (by simp [XX, partB_length, rPs_length]) (Nat.le_of_ble_eq_true (by kernel_rfl)) ?_
  simp only [kFun, Try.f82, List.length_nil, List.length_cons, Nat.sub_zero, Nat.reduceSub, Nat.reduceAdd, List.nil_append, List.cons_append, List.replicate_succ, List.replicate_zero]
  simp only [XX, ↓VC, VP, TT, List.getElem?_toArray, Nat.reduceEqDiff, reduceCtorEq, Nat.reduceAdd, Nat.reduceSub, Nat.reduceLT, Nat.reduceMul, Nat.reducePow, Nat.reduceLeDiff, Int.reduceToNat, Int.reduceLE, Int.reduceLT, Int.reducePow, partB_length, rPs_length]
  refine kLoop_of (fun i : Nat => ([.s 0 0 D.length c, .c (.int .i64 ((k + sumD (D.take i) : Nat))), .j, .j, .j, .c (.int .i64 (i)), .j, .j, .j, .j, .j, .j, .j, .j, .j, .j, .j, .j, .j], (⟨false, ptrV 1 (rPs D)⟩ :: partB true (rPs (mkI k D i))))) (fun i => D.length - i) (fun i => i ≤ D.length) 0 (by omega) ⟨List.range (D.length + 1), ?_⟩ ?_
  · refine LeS_id (ex := []) (by simp [partB_length, rPs_length, mkI_len]) (Nat.le_refl _) (by simp [mkI]) (by simp [leT, sumD]) (by simp [stL, stV]) ?_
    exact stB_cons (stL_ptrV (by omega)) (stB_part rPs_st)
  intro i hi
  rcases Nat.lt_or_ge i D.length with h1 | h1
  · have hpi : D[i]? = some D[i] := List.getElem?_eq_getElem h1
    generalize D[i] = p at hpi
    have hL : (rPs D)[i]? = some (rP p) := rPs_get hpi
    have hM : (rPs (mkI k D i))[i]? = some (rP p) := rPs_get (mkI_get hpi)
    obtain ⟨hp1, hp2⟩ := hp p (List.mem_of_getElem? hpi)
    have hs1 := sumD_succ hpi
    have hs2 := sumD_le D (i + 1)
    have hlk : ((⟨false, ptrV 1 (rPs D)⟩ : Blk) :: partB true (rPs (mkI k D i)))[i + 1]? = some ⟨true, bs p.1 ++ List.replicate (32 * p.2) .j⟩ := partB_get0 hM
    have hset : ((⟨false, ptrV 1 (rPs D)⟩ : Blk) :: partB true (rPs (mkI k D i))).set (i + 1) ⟨true, bs (markL (k + sumD (D.take i)) p.1.length) ++ List.replicate (32 * p.2) .j⟩ = ⟨false, ptrV 1 (rPs D)⟩ :: partB true (rPs (mkI k D (i + 1))) := by
      rw [List.set_cons_succ, ← mkI_set hpi, ← partB_rPs_set]
    have hln : ((⟨false, ptrV 1 (rPs D)⟩ : Blk) :: partB true (rPs (mkI k D i))).length = D.length + 1 := by simp [partB_length, rPs_length, mkI_len hi]
    simp only [↓VC, VP, TT, List.getElem?_toArray, Nat.reduceEqDiff, reduceCtorEq, Nat.reduceAdd, Nat.reduceSub, Nat.reduceLT, Nat.reduceMul, Nat.reducePow, Nat.reduceLeDiff, Int.reduceToNat, Int.reduceLE, Int.reduceLT, Int.reducePow, (eq_true (by omega) : ((i : Int) < (D.length : Int)) = True), decide_true, ↓vGet_ptrV0 hL, rP, ptrV_length, hPn, Nat.add_comm 1 i]
    have key := c_laws_markDigestS (p.1.length / 32) (p.1.length / 32 + p.2) (32 * p.2) (k + sumD (D.take i)) p.1 hp1 (by omega) (by omega) (by omega)
    rw [← hp1] at key
    refine kCall_M key (by rfl) [(i + 1, 0)] (by simp [CALL]) ⟨.inr ⟨rfl, rfl, by rw [hlk, instL_room]⟩, trivial⟩ (by simp) (by simp [okL, okV]) (by simp [okL_room]) (by intro x _; simp [keepR, bs_length, markL_len]) (by simp) fun _ _ => ?_
    simp only [CALL, ↓VC, VP, TT, List.getElem?_toArray, Nat.reduceEqDiff, reduceCtorEq, Nat.reduceAdd, Nat.reduceSub, Nat.reduceLT, Nat.reduceMul, Nat.reducePow, Nat.reduceLeDiff, Int.reduceToNat, Int.reduceLE, Int.reduceLT, Int.reducePow, putSegs, if_true, instL_room, hset, List.append_nil, List.map_nil]
    refine ⟨i + 1, by omega, by omega, List.range (D.length + 1), ?_⟩
    rw [wrap_i64 (by omega) (by omega)]
    refine LeS_id (ex := []) (by simp [partB_length, rPs_length, mkI_len (show i + 1 ≤ D.length from h1)]) (Nat.le_refl _) (by simp) (by simp [leT]; omega) (by simp [stL, stV]) ?_
    exact stB_cons (stL_ptrV (by omega)) (stB_part rPs_st)
  · obtain rfl : i = D.length := by omega
    simp only [↓VC, VP, TT, List.getElem?_toArray, Nat.reduceEqDiff, reduceCtorEq, Nat.reduceAdd, Nat.reduceSub, Nat.reduceLT, Nat.reduceMul, Nat.reducePow, Nat.reduceLeDiff, Int.reduceToNat, Int.reduceLE, Int.reduceLT, Int.reducePow, (eq_false (by omega) : ((D.length : Int) < (D.length : Int)) = False), decide_false]
    refine ⟨_, _, List.range (D.length + 1), ⟨(), trivial, rfl, (List.append_nil _).symm⟩, ?_⟩
    rw [mkI_all]
    refine LeS_id (ex := []) (by simp [partB_length, rPs_length, mkD_length]) (Nat.le_refl _) (by simp) (by simp [leT]) (by simp [stL, stV]) ?_
    exact stB_cons (stL_ptrV (by omega)) (stB_part rPs_st)
theorem rPs_len {k : Nat} {D : List (List UInt8 × Nat)} : (rPs (mkD k D)).length = D.length := by rw [rPs_length, mkD_length]
theorem c_laws_heldDigestSS (D : List (List UInt8 × Nat)) (c k : Nat) (hc : D.length ≤ c) (hm : D.length ≤ 1048576) (hp : ∀ p ∈ D, p.1.length = 32 * (p.1.length / 32) ∧ p.1.length ≤ 1048576) (hk : k + sumD D ≤ 4294967296) : LC Try.prog 84 [.s 0 0 D.length c, .c (.int .i64 (k))] (⟨false, ptrV 1 (rPs (mkD k D))⟩ :: partB false (rPs (mkD k D)))
    (fun v hp => v = .c (.int .i64 (((k + sumD D : Nat) : Int))) ∧ hp = (⟨false, ptrV 1 (rPs (mkD k D))⟩ :: partB false (rPs (mkD k D)))) := by
  have hPn := rPs_len (k := k) (D := D)
  refine LC_of (X := XX (fun _ => .nil) (fun _ => []) [25, 33, 34, 61, 62, 82, 87, 112, 119, 141] (D.length + 1)) envOK Try.func84 (by kernel_rfl) (by kernel_rfl) (by simp [XX, partB_length, hPn]) (Nat.le_of_ble_eq_true (by kernel_rfl)) ?_
  simp only [kFun, Try.f84, List.length_nil, List.length_cons, Nat.sub_zero, Nat.reduceSub, Nat.reduceAdd, List.nil_append, List.cons_append, List.replicate_succ, List.replicate_zero]
  simp only [XX, ↓VC, VP, TT, List.getElem?_toArray, Nat.reduceEqDiff, reduceCtorEq, Nat.reduceAdd, Nat.reduceSub, Nat.reduceLT, Nat.reduceMul, Nat.reducePow, Nat.reduceLeDiff, Int.reduceToNat, Int.reduceLE, Int.reduceLT, Int.reducePow, partB_length, hPn]
  refine kLoop_of (fun i : Nat => ([.s 0 0 D.length c, .c (.int .i64 ((k + sumD (D.take i) : Nat))), .j, .j, .j, .c (.int .i64 (i)), .j, .j, .j, .j, .j, .j, .j, .j, .j, .j, .j, .j, .j, .j, .j], (⟨false, ptrV 1 (rPs (mkD k D))⟩ :: partB false (rPs (mkD k D))))) (fun i => D.length - i) (fun i => i ≤ D.length) 0 (by omega) ⟨List.range (D.length + 1), ?_⟩ ?_
  · refine LeS_id (ex := []) (by simp [partB_length, hPn]) (Nat.le_refl _) (by simp) (by simp [leT, sumD]) (by simp [stL, stV]) ?_
    exact stB_cons (stL_ptrV (by omega)) (stB_part rPs_st)
  intro i hi
  rcases Nat.lt_or_ge i D.length with h1 | h1
  · have hpi : D[i]? = some D[i] := List.getElem?_eq_getElem h1
    generalize D[i] = p at hpi
    obtain ⟨hp1, hp2⟩ := hp p (List.mem_of_getElem? hpi)
    have hs1 := sumD_succ hpi
    have hs2 := sumD_le D (i + 1)
    have hL := rPs_get (mkD_get (k := k) hpi)
    have hlk : ((⟨false, ptrV 1 (rPs (mkD k D))⟩ : Blk) :: partB false (rPs (mkD k D)))[i + 1]? = some ⟨false, bs (markL (k + sumD (D.take i)) p.1.length) ++ List.replicate (32 * p.2) .j⟩ := partB_get0 hL
    simp only [↓VC, VP, TT, List.getElem?_toArray, Nat.reduceEqDiff, reduceCtorEq, Nat.reduceAdd, Nat.reduceSub, Nat.reduceLT, Nat.reduceMul, Nat.reducePow, Nat.reduceLeDiff, Int.reduceToNat, Int.reduceLE, Int.reduceLT, Int.reducePow, (eq_true (by omega) : ((i : Int) < (D.length : Int)) = True), decide_true, ↓vGet_ptrV0 hL, rP, ptrV_length, hPn, Nat.add_comm 1 i, markL_len]
    have key := c_laws_heldDigestS (p.1.length / 32) (p.1.length / 32 + p.2) (k + sumD (D.take i)) (by omega) (by omega) (by omega)
    rw [← hp1] at key
    refine kCall_val key (by rfl) [(i + 1, 0)] (by simp [CALL]) (seg_bAt (bAt_room hlk) (instL_bs _ _ _) trivial) (by simp [okL, okV]) (by simp [okL_bs]) ?_
    simp only [CALL, ↓VC, VP, TT, List.getElem?_toArray, Nat.reduceEqDiff, reduceCtorEq, Nat.reduceAdd, Nat.reduceSub, Nat.reduceLT, Nat.reduceMul, Nat.reducePow, Nat.reduceLeDiff, Int.reduceToNat, Int.reduceLE, Int.reduceLT, Int.reducePow, ← hs1, Nat.add_assoc]
    refine ⟨fun h2 => absurd h2 (by omega), fun _ => ⟨i + 1, by omega, by omega, List.range (D.length + 1), ?_⟩⟩
    rw [wrap_i64 (by omega) (by omega)]
    refine LeS_id (ex := []) (by simp [partB_length, hPn]) (Nat.le_refl _) (by simp) (by simp [leT]) (by simp [stL, stV]) ?_
    exact stB_cons (stL_ptrV (by omega)) (stB_part rPs_st)
  · obtain rfl : i = D.length := by omega
    simp only [↓VC, VP, TT, List.getElem?_toArray, Nat.reduceEqDiff, reduceCtorEq, Nat.reduceAdd, Nat.reduceSub, Nat.reduceLT, Nat.reduceMul, Nat.reducePow, Nat.reduceLeDiff, Int.reduceToNat, Int.reduceLE, Int.reduceLT, Int.reducePow, (eq_false (by omega) : ((D.length : Int) < (D.length : Int)) = False), decide_false]
    refine ⟨_, _, List.range (D.length + 1), ⟨rfl, rfl⟩, ?_⟩
    refine LeS_id (ex := []) (by simp [partB_length, hPn]) (Nat.le_refl _) (by simp) (by simp [leT]) (by simp [stL, stV]) ?_
    exact stB_cons (stL_ptrV (by omega)) (stB_part rPs_st)
end Go.Proofs.Ytapagcnipdpfiaa
