import Derived.Test.YtapagcnipdpfiaaVcgR
import Derived.Test.YtapagcnipdpfiaaByteSS
import Derived.Test.YtapagcnipdpfiaaDigS
import Derived.Test.YtapagcnipdpfiaaFieldM
/- The laws' own helpers over slices of slices of digests. -/
set_option linter.unusedSimpArgs false
set_option linter.unusedVariables false
namespace Go.Proofs.Ytapagcnipdpfiaa
open Go Go.Vc
set_option maxRecDepth 10000
set_option maxHeartbeats 4000000
/-- How many digests parts have. -/
def sumG (D : List (List UInt8 × Nat)) : Nat := (D.map fun p => p.1.length / 32).sum
theorem sumG_succ {D : List (List UInt8 × Nat)} {i : Nat} {p : List UInt8 × Nat} (h : D[i]? = some p) : sumG (D.take (i + 1)) = sumG (D.take i) + p.1.length / 32 := by
  unfold sumG
  rw [List.take_add_one, h, List.map_append, List.sum_append]
  simp
theorem sumG_le (D : List (List UInt8 × Nat)) (i : Nat) : sumG (D.take i) ≤ sumG D := by
  have : sumG D = sumG (D.take i) + sumG (D.drop i) := by
    unfold sumG
    rw [← List.sum_append, ← List.map_append, List.take_append_drop]
  omega
/-- The same bytes in slices without room. -/
def cpG (D : List (List UInt8 × Nat)) : List (List UInt8 × Nat) := D.map fun p => (p.1, p.1.length / 32)
theorem cpG_length (D : List (List UInt8 × Nat)) : (cpG D).length = D.length := by simp [cpG]
theorem cpG_get {D : List (List UInt8 × Nat)} {i : Nat} {p : List UInt8 × Nat} (h : D[i]? = some p) : (cpG D)[i]? = some (p.1, p.1.length / 32) := by simp [cpG, List.getElem?_map, h]
theorem c_laws_eqDigestSS (D : List (List UInt8 × Nat)) (c1 c2 : Nat) (hc1 : D.length ≤ c1) (hc2 : D.length ≤ c2) (hm : D.length ≤ 1048576) (hp : ∀ p ∈ D, p.1.length = 32 * (p.1.length / 32) ∧ p.1.length / 32 ≤ p.2 ∧ p.1.length / 32 ≤ 1048576) : LC Try.prog 80 [.s 0 0 D.length c1, .s 1 0 D.length c2] (⟨false, ptrV 2 (dPs D)⟩ :: ⟨false, ptrV (D.length + 2) (dPs D)⟩ :: (partB false (dPs D) ++ partB false (dPs D)))
    (fun v hp => v = .c (.bool (true)) ∧ hp = (⟨false, ptrV 2 (dPs D)⟩ :: ⟨false, ptrV (D.length + 2) (dPs D)⟩ :: (partB false (dPs D) ++ partB false (dPs D)))) := by
  refine LC_of (X := XX (fun | 6 => .one 0 (.one 1 (.one 2 (.one 3 (.one 4 (.one 5 (.one 6 (.one 7 (.one 8 (.one 9 .nil))))))))) | _ => .nil) (fun _ => []) [25, 33, 34, 61, 62, 82, 87, 112, 119, 141] (D.length + D.length + 2)) envOK Try.func80 (by kernel_rfl) (by kernel_rfl) (by simp [XX, partB_length, dPs_length]) (Nat.le_of_ble_eq_true (by kernel_rfl)) ?_
  simp only [kFun, Try.f80, List.length_nil, List.length_cons, Nat.sub_zero, Nat.reduceSub, Nat.reduceAdd, List.nil_append, List.cons_append, List.replicate_succ, List.replicate_zero]
  simp only [XX, ↓VC, VP, TT, List.getElem?_toArray, Nat.reduceEqDiff, reduceCtorEq, Nat.reduceAdd, Nat.reduceSub, Nat.reduceLT, Nat.reduceMul, Nat.reducePow, Nat.reduceLeDiff, Int.reduceToNat, Int.reduceLE, Int.reduceLT, Int.reducePow, partB_length, dPs_length, bne_self_eq_false]
  have hPn := dPs_length D
  have hPs : ∀ {N : Nat}, ∀ p ∈ dPs D, stL N p.cells := fun {N} => dPs_st
  generalize hP : dPs D = P at *
  refine kLoop_of (fun i : Nat => ([.s 0 0 D.length c1, .s 1 0 D.length c2, .j, .j, .j, .c (.int .i64 (i)), .j, .j, .j, .j, .j, .j, .j, .j, .j, .j, .j, .j, .j, .j, .j, .j, .j, .j, .j, .j, .j], (⟨false, ptrV 2 P⟩ :: ⟨false, ptrV (D.length + 2) P⟩ :: (partB false P ++ partB false P)))) (fun i => D.length - i) (fun i => i ≤ D.length) 0 (by omega) ⟨List.range (D.length + D.length + 2), ?_⟩ ?_
  · refine LeS_id (ex := []) (by simp [partB_length, hPn]) (Nat.le_refl _) (by simp) (by simp [leT]) (by simp [stL, stV]) ?_
    exact stB_cons (stL_ptrV (by omega)) (stB_cons (stL_ptrV (by omega)) (stB_app (stB_part hPs) (stB_part hPs)))
  intro i hi
  rcases Nat.lt_or_ge i D.length with h1 | h1
  · have hpi : D[i]? = some D[i] := List.getElem?_eq_getElem h1
    generalize D[i] = p at hpi
    have hL : P[i]? = some (dP p) := by rw [← hP]; exact dPs_get hpi
    obtain ⟨hq0, hp1, hp2⟩ := hp p (List.mem_of_getElem? hpi)
    have hlk : ∀ R, ((⟨false, ptrV 2 P⟩ : Blk) :: ⟨false, ptrV (D.length + 2) P⟩ :: (partB false P ++ R))[i + 2]? = some ⟨false, bs p.1⟩ := fun R => partB_get hL
    have hlk2 : ((⟨false, ptrV 2 P⟩ : Blk) :: ⟨false, ptrV (D.length + 2) P⟩ :: (partB false P ++ partB false P))[D.length + i + 2]? = some ⟨false, bs p.1⟩ := by
      show (partB false P ++ partB false P)[D.length + i]? = _
      rw [partB_skip hPn]; exact partB_get0 hL
    have hi2 : 2 + i = i + 2 := by omega
    have hi3 : D.length + 2 + i = D.length + i + 2 := by omega
    simp only [↓VC, VP, TT, List.getElem?_toArray, Nat.reduceEqDiff, reduceCtorEq, Nat.reduceAdd, Nat.reduceSub, Nat.reduceLT, Nat.reduceMul, Nat.reducePow, Nat.reduceLeDiff, Int.reduceToNat, Int.reduceLE, Int.reduceLT, Int.reducePow, (eq_true (by omega) : ((i : Int) < (D.length : Int)) = True), decide_true, ↓vGet_ptrV0 hL, dP, ptrV_length, hPn, hi2, hi3]
    have hg1 : i < D.length + D.length := by omega
    refine kCall_val (c_laws_eqDigestS (p.1.length / 32) (p.1.length / 32) p.2 p.2 p.1 p.1 hq0 hq0 hp1 hp1 hp2) (by rfl) [(i + 2, 0), (D.length + i + 2, 0)] (by simp [CALL, cellsAt, tk, take_room, bs_length, bs_nil, ptrV_length, partB_length, dPs_length, stL, ↓hlk, ↓hlk2, h1, hg1, hPn]) (by simp [CALL, cellsAt, tk, take_room, bs_length, bs_nil, ptrV_length, partB_length, dPs_length, stL, ↓hlk, ↓hlk2, h1, hg1, hPn]) (by simp [CALL, cellsAt, tk, take_room, bs_length, bs_nil, ptrV_length, partB_length, dPs_length, stL, ↓hlk, ↓hlk2, h1, hg1, hPn]) (by simp [okL_bs, okL_room, okL, okV, ptrV_length, partB_length, dPs_length, stL, ↓hlk, ↓hlk2, h1, hg1, hPn]) ?_
    simp (config := { maxSteps := 2000000 }) only [CALL, ↓VC, VP, TT, List.getElem?_toArray, Nat.reduceEqDiff, reduceCtorEq, Nat.reduceAdd, Nat.reduceSub, Nat.reduceLT, Nat.reduceMul, Nat.reducePow, Nat.reduceLeDiff, Int.reduceToNat, Int.reduceLE, Int.reduceLT, Int.reducePow, instL_room, Bool.not_true, Bool.not_false, ptrV_length, partB_length, dPs_length, dP, beq_self_eq_true, Bool.not_true]
    refine ⟨i + 1, by omega, by omega, List.range (D.length + D.length + 2), ?_⟩
    rw [wrap_i64 (by omega) (by omega)]
    refine LeS_id (ex := []) (by simp [partB_length, hPn]) (Nat.le_refl _) (by simp) (by simp [leT]) (by simp [stL, stV]) ?_
    exact stB_cons (stL_ptrV (by omega)) (stB_cons (stL_ptrV (by omega)) (stB_app (stB_part hPs) (stB_part hPs)))
  · obtain rfl : i = D.length := by omega
    simp only [↓VC, VP, TT, List.getElem?_toArray, Nat.reduceEqDiff, reduceCtorEq, Nat.reduceAdd, Nat.reduceSub, Nat.reduceLT, Nat.reduceMul, Nat.reducePow, Nat.reduceLeDiff, Int.reduceToNat, Int.reduceLE, Int.reduceLT, Int.reducePow, (eq_false (by omega) : ((D.length : Int) < (D.length : Int)) = False), decide_false]
    refine ⟨_, _, List.range (D.length + D.length + 2), ⟨rfl, rfl⟩, ?_⟩
    refine LeS_id (ex := []) (by simp [partB_length, hPn]) (Nat.le_refl _) (by simp) (by simp [leT]) (by simp [stL, stV]) ?_
    exact stB_cons (stL_ptrV (by omega)) (stB_cons (stL_ptrV (by omega)) (stB_app (stB_part hPs) (stB_part hPs)))
end Go.Proofs.Ytapagcnipdpfiaa
