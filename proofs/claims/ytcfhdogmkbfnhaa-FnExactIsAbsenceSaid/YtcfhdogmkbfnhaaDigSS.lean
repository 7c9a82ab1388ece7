import Derived.Test.YtcfhdogmkbfnhaaVcgR
import Derived.Test.YtcfhdogmkbfnhaaByteSS
import Derived.Test.YtcfhdogmkbfnhaaDigS
import Derived.Test.YtcfhdogmkbfnhaaFieldM
/- The laws' own helpers over slices of slices of digests. -/
set_option linter.unusedSimpArgs false
set_option linter.unusedVariables false
namespace Go.Proofs.Ytcfhdogmkbfnhaa
open Go Go.Vc
set_option maxRecDepth 10000
set_option maxHeartbeats 4000000
/-- How many digests parts have. -/
def sumG (D : List (List UInt8 × Nat)) : Nat := (D.map fun p => p.1.length / 32).sum
theorem sumG_succ {D : List (List UInt8 × Nat)} {i : Nat} {p : List UInt8 × Nat} (h : D[i]? = some p) : sumG (D.take (i + 1)) = sumG (D.take i) + p.1.length / 32 := by
  unfold sumG
  rw [List.take_add_one, h, List.map_append, List.sum_append]
  simp
theorem sumG_le (D : List (List UInt8 × Nat)) (i : Nat) : sumG (D.take i) ≤ sumG D := by
  have : sumG D = sumG (D.take i) + sumG (D.drop i) := by
    unfold sumG
    rw [← List.sum_append, ← List.map_append, List.take_append_drop]
  omega
theorem c_laws_szDigestSS (D : List (List UInt8 × Nat)) (c m : Nat) (hm : D.length ≤ maxLen) (hp : ∀ p ∈ D, p.1.length = 32 * (p.1.length / 32) ∧ p.1.length / 32 ≤ p.2 ∧ p.1.length / 32 ≤ maxLen) (h20 : m ≤ 1048576) : LC Try.prog 95 [.s 0 0 D.length c, .c (.int .i64 (m))] (⟨false, ptrV 1 (dPs D)⟩ :: partB false (dPs D))
    (fun v hp => v = .c (.int .i64 ((if D.length + sumG D ≤ m then (m : Int) - (D.length + sumG D : Nat) else -1))) ∧ hp = ⟨false, ptrV 1 (dPs D)⟩ :: partB false (dPs D)) := by
  have hm' := hm
  unfold maxLen at hm'
  have e : IntKind.i64.wrap ((m : Int) - (D.length : Int)) = (m : Int) - D.length := wrap_i64 (by omega) (by omega)
  refine LC_of (X := XX (fun _ => .nil) (fun _ => []) [19, 20, 48, 49, 59, 72, 93, 112, 174] (D.length + 1)) envOK Try.func95 (by kernel_rfl) (by kernel_rfl) (by simp [XX, partB_length, dPs_length]) (Nat.le_of_ble_eq_true (by kernel_rfl)) ?_
  simp only [kFun, Try.f95, List.length_nil, List.length_cons, Nat.sub_zero, Nat.reduceSub, Nat.reduceAdd, List.nil_append, List.cons_append, List.replicate_succ, List.replicate_zero]
  simp only [XX, ↓VC, VP, TT, List.getElem?_toArray, Nat.reduceEqDiff, reduceCtorEq, Nat.reduceAdd, Nat.reduceSub, Nat.reduceLT, Nat.reduceMul, Nat.reducePow, Nat.reduceLeDiff, Int.reduceToNat, Int.reduceLE, Int.reduceLT, Int.reducePow, e, partB_length, dPs_length]
  refine ⟨fun h => ⟨_, _, List.range (D.length + 1), ⟨rfl, rfl⟩, ?_⟩, fun h => ?_⟩
  · rw [if_neg (by omega)]
    exact LeS_id (by simp [partB_length, dPs_length]) (Nat.le_refl _) (List.append_nil _).symm (by simp [leT]) (by simp [stL, stV]) (stB_nest (by rw [dPs_length]; omega) dPs_st)
  refine kLoop_of (fun i : Nat => ([.s 0 0 D.length c, .c (.int .i64 ((m - D.length - sumG (D.take i) : Nat))), .j, .j, .j, .c (.int .i64 (i)), .j, .j, .j, .j, .j, .j, .j, .j, .j, .j, .j, .j, .j, .j, .j, .j, .j, .j, .j, .j, .j], ⟨false, ptrV 1 (dPs D)⟩ :: partB false (dPs D))) (fun i => D.length - i) (fun i => i ≤ D.length ∧ D.length + sumG (D.take i) ≤ m) 0 ⟨by omega, by simp [sumG]; omega⟩
    ⟨List.range (D.length + 1), LeS_id (by simp [partB_length, dPs_length]) (Nat.le_refl _) (List.append_nil _).symm (by simp [leT, sumG]; omega) (by simp [stL, stV]) (stB_nest (by rw [dPs_length]; omega) dPs_st)⟩ ?_
  rintro i ⟨hi, hs⟩
  rcases Nat.lt_or_ge i D.length with h1 | h1
  · have hpi : D[i]? = some D[i] := List.getElem?_eq_getElem h1
    generalize D[i] = p at hpi
    have hL := dPs_get hpi
    have hss := sumG_succ hpi
    simp only [↓VC, VP, TT, List.getElem?_toArray, Nat.reduceEqDiff, reduceCtorEq, Nat.reduceAdd, Nat.reduceSub, Nat.reduceLT, Nat.reduceMul, Nat.reducePow, Nat.reduceLeDiff, Int.reduceToNat, Int.reduceLE, Int.reduceLT, Int.reducePow, (eq_true (by omega) : ((i : Int) < (D.length : Int)) = True), decide_true, ↓vGet_ptrV0 hL, dP, ptrV_length, dPs_length]
    have hpm := hp p (List.mem_of_getElem? hpi)
    have hlk : ((⟨false, ptrV 1 (dPs D)⟩ : Blk) :: partB false (dPs D))[i + 1]? = some ⟨false, bs p.1⟩ := partB_get0 hL
    refine kCall_val (c_laws_szDigestS (p.1.length / 32) p.2 (m - D.length - sumG (D.take i)) p.1 hpm.1 hpm.2.1 hpm.2.2 (by omega)) (by rfl) [(1 + i, 0)] (by simp [CALL, cellsAt, tk, take_room, bs_length, bs_nil, ptrV_length, partB_length, dPs_length, stL, ↓hlk, Nat.add_comm 1 i, h1, dP]) (by simp [CALL, cellsAt, tk, take_room, bs_length, bs_nil, ptrV_length, partB_length, dPs_length, stL, ↓hlk, Nat.add_comm 1 i, h1, dP]) (by simp [CALL, cellsAt, tk, take_room, bs_length, bs_nil, ptrV_length, partB_length, dPs_length, stL, ↓hlk, Nat.add_comm 1 i, h1, dP]) (by simp [okL_bs, okL_room, okL, okV, ptrV_length, partB_length, dPs_length, stL, ↓hlk, Nat.add_comm 1 i, h1, dP]) ?_
    simp (config := { maxSteps := 2000000 }) only [CALL, ↓VC, VP, TT, List.getElem?_toArray, Nat.reduceEqDiff, reduceCtorEq, Nat.reduceAdd, Nat.reduceSub, Nat.reduceLT, Nat.reduceMul, Nat.reducePow, Nat.reduceLeDiff, Int.reduceToNat, Int.reduceLE, Int.reduceLT, Int.reducePow, instL_room, Bool.not_true, Bool.not_false, ptrV_length, partB_length, dPs_length, dP]
    refine ⟨fun h2 => ?_, fun h2 => ?_⟩
    · refine ⟨_, _, List.range (D.length + 1), ⟨rfl, rfl⟩, ?_⟩
      have := sumG_le D (i + 1)
      rw [if_neg (by split at h2 <;> omega)]
      exact LeS_id (by simp [partB_length, dPs_length]) (Nat.le_refl _) (List.append_nil _).symm (by simp [leT]) (by simp [stL, stV]) (stB_nest (by rw [dPs_length]; omega) dPs_st)
    · have hle : p.1.length / 32 ≤ m - D.length - sumG (D.take i) := by
        by_cases h3 : p.1.length / 32 ≤ m - D.length - sumG (D.take i)
        · exact h3
        · rw [if_neg h3] at h2; omega
      refine ⟨i + 1, ⟨by omega, by omega⟩, by omega, List.range (D.length + 1), ?_⟩
      rw [if_pos hle, wrap_i64 (by omega) (by omega), show ((m - D.length - sumG (D.take i) : Nat) : Int) - ((p.1.length / 32 : Nat) : Int) = ((m - D.length - sumG (D.take (i + 1)) : Nat) : Int) by omega]
      exact LeS_id (by simp [partB_length, dPs_length]) (Nat.le_refl _) (List.append_nil _).symm (by simp [leT]) (by simp [stL, stV]) (stB_nest (by rw [dPs_length]; omega) dPs_st)
  · obtain rfl : i = D.length := by omega
    simp only [↓VC, VP, TT, List.getElem?_toArray, Nat.reduceEqDiff, reduceCtorEq, Nat.reduceAdd, Nat.reduceSub, Nat.reduceLT, Nat.reduceMul, Nat.reducePow, Nat.reduceLeDiff, Int.reduceToNat, Int.reduceLE, Int.reduceLT, Int.reducePow, (eq_false (by omega) : ((D.length : Int) < (D.length : Int)) = False), decide_false]
    refine ⟨_, _, List.range (D.length + 1), ⟨rfl, rfl⟩, ?_⟩
    rw [List.take_length] at hs
    rw [if_pos hs]
    exact LeS_id (by simp [partB_length, dPs_length]) (Nat.le_refl _) (List.append_nil _).symm (by simp [leT]; omega) (by simp [stL, stV]) (stB_nest (by rw [dPs_length]; omega) dPs_st)
/-- The same bytes in slices without room. -/
def cpG (D : List (List UInt8 × Nat)) : List (List UInt8 × Nat) := D.map fun p => (p.1, p.1.length / 32)
theorem cpG_length (D : List (List UInt8 × Nat)) : (cpG D).length = D.length := by simp [cpG]
theorem cpG_get {D : List (List UInt8 × Nat)} {i : Nat} {p : List UInt8 × Nat} (h : D[i]? = some p) : (cpG D)[i]? = some (p.1, p.1.length / 32) := by simp [cpG, List.getElem?_map, h]
theorem c_laws_toDigestSS (D : List (List UInt8 × Nat)) (c : Nat) (hc : D.length ≤ c) (hm : D.length ≤ 1048576) (hp : ∀ p ∈ D, p.1.length = 32 * (p.1.length / 32) ∧ p.1.length / 32 ≤ p.2 ∧ p.1.length / 32 ≤ 1048576) : LC Try.prog 100 [.s 0 0 D.length c] (⟨false, ptrV 1 (dPs D)⟩ :: partB false (dPs D))
    (Ret (⟨false, ptrV 1 (dPs D)⟩ :: partB false (dPs D)) (fun _ : Unit => True) fun _ => (.s (D.length + 1) 0 D.length D.length, ⟨true, ptrV (D.length + 2) (dPs (cpG D))⟩ :: partB true (dPs (cpG D)))) := by
  refine LC_of (X := XX (fun _ => .nil) (fun _ => []) [19, 20, 48, 49, 59, 72, 93, 112, 174] (D.length + 1)) envOK Try.func100 (by kernel_rfl) (by kernel_rfl) (by simp [XX, partB_length, dPs_length]) (Nat.le_of_ble_eq_true (by kernel_rfl)) ?_
  simp only [kFun, Try.f100, List.length_nil, List.length_cons, Nat.sub_zero, Nat.reduceSub, Nat.reduceAdd, List.nil_append, List.cons_append, List.replicate_succ, List.replicate_zero]
  simp only [XX, ↓VC, VP, TT, List.getElem?_toArray, Nat.reduceEqDiff, reduceCtorEq, Nat.reduceAdd, Nat.reduceSub, Nat.reduceLT, Nat.reduceMul, Nat.reducePow, Nat.reduceLeDiff, Int.reduceToNat, Int.reduceLE, Int.reduceLT, Int.reducePow, partB_length, dPs_length, flat_one]
  refine ⟨by omega, by omega, by omega, ?_⟩
  have hPn := dPs_length D
  have hQn : (dPs (cpG D)).length = D.length := by rw [dPs_length, cpG_length]
  have hPs : ∀ {N : Nat}, ∀ p ∈ dPs D, stL N p.cells := fun {N} => dPs_st
  have hQs : ∀ {N : Nat}, ∀ p ∈ dPs (cpG D), stL N p.cells := fun {N} => dPs_st
  generalize hP : dPs D = P at *
  generalize hQ : dPs (cpG D) = Q at *
  refine kLoop_of (fun i : Nat => ([.s 0 0 D.length c, .j, .j, .s (D.length + 1) 0 D.length D.length, .c (.int .i64 (i)), .j, .j, .j, .j, .j, .j, .j, .j, .j, .j, .j, .j, .j, .j, .j, .j, .j, .j], ⟨false, ptrV 1 P⟩ :: (partB false P ++ (⟨true, ptrV (D.length + 2) (Q.take i) ++ List.replicate (D.length - i) (.c (.slice none 0 0))⟩ :: partB true (Q.take i))))) (fun i => D.length - i) (fun i => i ≤ D.length) 0 (by omega)
    ⟨List.range (D.length + 2), ?_⟩ ?_
  · refine LeS_id (ex := []) (by simp [partB_length, hPn]) (Nat.le_succ _) (by simp [partB, ptrV]) (by simp [leT]) (by simp [stL, stV]) ?_
    exact stB_cons (stL_ptrV (by omega)) (stB_app (stB_part hPs) (stB_cons (stL_app.2 ⟨trivial, stL_repc _ _ _⟩) stB_nil))
  intro i hi
  rcases Nat.lt_or_ge i D.length with h1 | h1
  · have hpi : D[i]? = some D[i] := List.getElem?_eq_getElem h1
    generalize D[i] = p at hpi
    have hL : P[i]? = some (dP p) := by rw [← hP]; exact dPs_get hpi
    have hM : Q[i]? = some (dP (p.1, p.1.length / 32)) := by rw [← hQ]; exact dPs_get (cpG_get hpi)
    obtain ⟨hq0, hp1, hp2⟩ := hp p (List.mem_of_getElem? hpi)
    have hlk : ∀ R, ((⟨false, ptrV 1 P⟩ : Blk) :: (partB false P ++ R))[i + 1]? = some ⟨false, bs p.1⟩ := fun R => partB_get hL
    have hmn : min i Q.length = i := by omega
    have hlt : i < D.length + (i + 1) := by omega
    have hrep : List.replicate (D.length - i) (V.c (.slice none 0 0)) = V.c (.slice none 0 0) :: List.replicate (D.length - (i + 1)) (V.c (.slice none 0 0)) := by rw [show D.length - i = (D.length - (i + 1)) + 1 by omega, List.replicate_succ]
    have hTl : (ptrV (D.length + 2) (Q.take i)).length = i := by rw [ptrV_length, List.length_take]; omega
    simp only [↓VC, VP, TT, List.getElem?_toArray, Nat.reduceEqDiff, reduceCtorEq, Nat.reduceAdd, Nat.reduceSub, Nat.reduceLT, Nat.reduceMul, Nat.reducePow, Nat.reduceLeDiff, Int.reduceToNat, Int.reduceLE, Int.reduceLT, Int.reducePow, (eq_true (by omega) : ((i : Int) < (D.length : Int)) = True), decide_true, ↓vGet_ptrV0 hL, dP, ptrV_length, hPn]
    refine kCall_Ret (c_laws_toDigestS (p.1.length / 32) p.2 p.1 hq0 hp1 hp2) (by rfl) [(1 + i, 0)] (by simp [CALL, cellsAt, tk, take_room, bs_length, bs_nil, ptrV_length, partB_length, dPs_length, stL, ↓hlk, Nat.add_comm 1 i, h1, hPn, hmn, hlt]) (by simp [CALL, cellsAt, tk, take_room, bs_length, bs_nil, ptrV_length, partB_length, dPs_length, stL, ↓hlk, Nat.add_comm 1 i, h1, hPn, hmn, hlt]) (by simp [CALL, cellsAt, tk, take_room, bs_length, bs_nil, ptrV_length, partB_length, dPs_length, stL, ↓hlk, Nat.add_comm 1 i, h1, hPn, hmn, hlt]) (by simp [okL_bs, okL_room, okL, okV, ptrV_length, partB_length, dPs_length, stL, ↓hlk, Nat.add_comm 1 i, h1, hPn, hmn, hlt]) (by simp [CALL, cellsAt, tk, take_room, bs_length, bs_nil, ptrV_length, partB_length, dPs_length, stL, ↓hlk, Nat.add_comm 1 i, h1, hPn, hmn, hlt]) fun _ _ => ?_
    simp (config := { maxSteps := 2000000 }) only [CALL, ↓VC, VP, TT, List.getElem?_toArray, Nat.reduceEqDiff, reduceCtorEq, Nat.reduceAdd, Nat.reduceSub, Nat.reduceLT, Nat.reduceMul, Nat.reducePow, Nat.reduceLeDiff, Int.reduceToNat, Int.reduceLE, Int.reduceLT, Int.reducePow, instL_room, Bool.not_true, Bool.not_false, ptrV_length, partB_length, dPs_length, dP, List.append_assoc, List.cons_append, partB_skip0 hPn, partB_set0 hPn, hPn, hQn, hTl, hrep]
    refine ⟨by omega, i + 1, by omega, by omega, List.range (D.length + 2 + (i + 1)), ?_⟩
    rw [ptrV_succ hM, partB_succ hM, wrap_i64 (by omega) (by omega)]
    refine LeS_id (ex := []) (by simp [partB_length, hPn, hmn]; omega) (show D.length + 1 ≤ D.length + 2 + (i + 1) by omega) (by simp [dP, List.length_take, hmn]; omega) (by simp [leT]) (by simp [stL, stV]; omega) ?_
    exact stB_cons (stL_ptrV (by omega)) (stB_app (stB_part hPs) (stB_cons (stL_app.2 ⟨stL_app.2 ⟨stL_ptrV (by rw [List.length_take]; omega), show _ ∧ True from ⟨show D.length + 2 + i < _ by omega, trivial⟩⟩, stL_repc _ _ _⟩) (stB_app (stB_part fun p hp => hQs p (List.mem_of_mem_take hp)) (stB_cons (stL_bs _ _) stB_nil))))
  · obtain rfl : i = D.length := by omega
    simp only [↓VC, VP, TT, List.getElem?_toArray, Nat.reduceEqDiff, reduceCtorEq, Nat.reduceAdd, Nat.reduceSub, Nat.reduceLT, Nat.reduceMul, Nat.reducePow, Nat.reduceLeDiff, Int.reduceToNat, Int.reduceLE, Int.reduceLT, Int.reducePow, (eq_false (by omega) : ((D.length : Int) < (D.length : Int)) = False), decide_false]
    rw [List.take_of_length_le (by omega)]
    refine ⟨_, _, List.range (D.length + 2 + D.length), ⟨(), trivial, rfl, rfl⟩, ?_⟩
    refine LeS_id (ex := []) (by simp [partB_length, hPn, hQn]; omega) (by omega) (by simp) (by simp [leT]) (by simp [stL, stV]; omega) ?_
    exact stB_app (stB_cons (stL_ptrV (by omega)) (stB_part hPs)) (stB_cons (stL_ptrV (by omega)) (stB_part hQs))
theorem c_laws_eqDigestSS (D : List (List UInt8 × Nat)) (c1 c2 : Nat) (hc1 : D.length ≤ c1) (hc2 : D.length ≤ c2) (hm : D.length ≤ 1048576) (hp : ∀ p ∈ D, p.1.length = 32 * (p.1.length / 32) ∧ p.1.length / 32 ≤ p.2 ∧ p.1.length / 32 ≤ 1048576) : LC Try.prog 104 [.s 0 0 D.length c1, .s 1 0 D.length c2] (⟨false, ptrV 2 (dPs D)⟩ :: ⟨false, ptrV (D.length + 2) (dPs D)⟩ :: (partB false (dPs D) ++ partB false (dPs D)))
    (fun v hp => v = .c (.bool (true)) ∧ hp = (⟨false, ptrV 2 (dPs D)⟩ :: ⟨false, ptrV (D.length + 2) (dPs D)⟩ :: (partB false (dPs D) ++ partB false (dPs D)))) := by
  refine LC_of (X := XX (fun | 6 => .one 0 (.one 1 (.one 2 (.one 3 (.one 4 (.one 5 (.one 6 (.one 7 (.one 8 (.one 9 .nil))))))))) | _ => .nil) (fun _ => []) [19, 20, 48, 49, 59, 72, 93, 112, 174] (D.length + D.length + 2)) envOK Try.func104 (by kernel_rfl) (by kernel_rfl) (by simp [XX, partB_length, dPs_length]) (Nat.le_of_ble_eq_true (by kernel_rfl)) ?_
  simp only [kFun, Try.f104, List.length_nil, List.length_cons, Nat.sub_zero, Nat.reduceSub, Nat.reduceAdd, List.nil_append, List.cons_append, List.replicate_succ, List.replicate_zero]
  simp only [XX, ↓VC, VP, TT, List.getElem?_toArray, Nat.reduceEqDiff, reduceCtorEq, Nat.reduceAdd, Nat.reduceSub, Nat.reduceLT, Nat.reduceMul, Nat.reducePow, Nat.reduceLeDiff, Int.reduceToNat, Int.reduceLE, Int.reduceLT, Int.reducePow, partB_length, dPs_length, bne_self_eq_false]
  have hPn := dPs_length D
  have hPs : ∀ {N : Nat}, ∀ p ∈ dPs D, stL N p.cells := fun {N} => dPs_st
  generalize hP : dPs D = P at *
  refine kLoop_of (fun i : Nat => ([.s 0 0 D.length c1, .s 1 0 D.length c2, .j, .j, .j, .c (.int .i64 (i)), .j, .j, .j, .j, .j, .j, .j, .j, .j, .j, .j, .j, .j, .j, .j, .j, .j, .j, .j, .j, .j], (⟨false, ptrV 2 P⟩ :: ⟨false, ptrV (D.length + 2) P⟩ :: (partB false P ++ partB false P)))) (fun i => D.length - i) (fun i => i ≤ D.length) 0 (by omega) ⟨List.range (D.length + D.length + 2), ?_⟩ ?_
  · refine LeS_id (ex := []) (by simp [partB_length, hPn]) (Nat.le_refl _) (by simp) (by simp [leT]) (by simp [stL, stV]) ?_
    exact stB_cons (stL_ptrV (by omega)) (stB_cons (stL_ptrV (by omega)) (stB_app (stB_part hPs) (stB_part hPs)))
  intro i hi
  rcases Nat.lt_or_ge i D.length with h1 | h1
  · have hpi : D[i]? = some D[i] := List.getElem?_eq_getElem h1
    generalize D[i] = p at hpi
    have hL : P[i]? = some (dP p) := by rw [← hP]; exact dPs_get hpi
    obtain ⟨hq0, hp1, hp2⟩ := hp p (List.mem_of_getElem? hpi)
    have hlk : ∀ R, ((⟨false, ptrV 2 P⟩ : Blk) :: ⟨false, ptrV (D.length + 2) P⟩ :: (partB false P ++ R))[i + 2]? = some ⟨false, bs p.1⟩ := fun R => partB_get hL
    have hlk2 : ((⟨false, ptrV 2 P⟩ : Blk) :: ⟨false, ptrV (D.length + 2) P⟩ :: (partB false P ++ partB false P))[D.length + i + 2]? = some ⟨false, bs p.1⟩ := by
      show (partB false P ++ partB false P)[D.length + i]? = _
      rw [partB_skip hPn]; exact partB_get0 hL
    have hi2 : 2 + i = i + 2 := by omega
    have hi3 : D.length + 2 + i = D.length + i + 2 := by omega
    simp only [↓VC, VP, TT, List.getElem?_toArray, Nat.reduceEqDiff, reduceCtorEq, Nat.reduceAdd, Nat.reduceSub, Nat.reduceLT, Nat.reduceMul, Nat.reducePow, Nat.reduceLeDiff, Int.reduceToNat, Int.reduceLE, Int.reduceLT, Int.reducePow, (eq_true (by omega) : ((i : Int) < (D.length : Int)) = True), decide_true, ↓vGet_ptrV0 hL, dP, ptrV_length, hPn, hi2, hi3]
    have hg1 : i < D.length + D.length := by omega
    refine kCall_val (c_laws_eqDigestS (p.1.length / 32) (p.1.length / 32) p.2 p.2 p.1 p.1 hq0 hq0 hp1 hp1 hp2) (by rfl) [(i + 2, 0), (D.length + i + 2, 0)] (by simp [CALL, cellsAt, tk, take_room, bs_length, bs_nil, ptrV_length, partB_length, dPs_length, stL, ↓hlk, ↓hlk2, h1, hg1, hPn]) (by simp [CALL, cellsAt, tk, take_room, bs_length, bs_nil, ptrV_length, partB_length, dPs_length, stL, ↓hlk, ↓hlk2, h1, hg1, hPn]) (by simp [CALL, cellsAt, tk, take_room, bs_length, bs_nil, ptrV_length, partB_length, dPs_length, stL, ↓hlk, ↓hlk2, h1, hg1, hPn]) (by simp [okL_bs, okL_room, okL, okV, ptrV_length, partB_length, dPs_length, stL, ↓hlk, ↓hlk2, h1, hg1, hPn]) ?_
    simp (config := { maxSteps := 2000000 }) only [CALL, ↓VC, VP, TT, List.getElem?_toArray, Nat.reduceEqDiff, reduceCtorEq, Nat.reduceAdd, Nat.reduceSub, Nat.reduceLT, Nat.reduceMul, Nat.reducePow, Nat.reduceLeDiff, Int.reduceToNat, Int.reduceLE, Int.reduceLT, Int.reducePow, instL_room, Bool.not_true, Bool.not_false, ptrV_length, partB_length, dPs_length, dP, beq_self_eq_true, Bool.not_true]
    refine ⟨i + 1, by omega, by omega, List.range (D.length + D.length + 2), ?_⟩
    rw [wrap_i64 (by omega) (by omega)]
    refine LeS_id (ex := []) (by simp [partB_length, hPn]) (Nat.le_refl _) (by simp) (by simp [leT]) (by simp [stL, stV]) ?_
    exact stB_cons (stL_ptrV (by omega)) (stB_cons (stL_ptrV (by omega)) (stB_app (stB_part hPs) (stB_part hPs)))
  · obtain rfl : i = D.length := by omega
    simp only [↓VC, VP, TT, List.getElem?_toArray, Nat.reduceEqDiff, reduceCtorEq, Nat.reduceAdd, Nat.reduceSub, Nat.reduceLT, Nat.reduceMul, Nat.reducePow, Nat.reduceLeDiff, Int.reduceToNat, Int.reduceLE, Int.reduceLT, Int.reducePow, (eq_false (by omega) : ((D.length : Int) < (D.length : Int)) = False), decide_false]
    refine ⟨_, _, List.range (D.length + D.length + 2), ⟨rfl, rfl⟩, ?_⟩
    refine LeS_id (ex := []) (by simp [partB_length, hPn]) (Nat.le_refl _) (by simp) (by simp [leT]) (by simp [stL, stV]) ?_
    exact stB_cons (stL_ptrV (by omega)) (stB_cons (stL_ptrV (by omega)) (stB_app (stB_part hPs) (stB_part hPs)))
end Go.Proofs.Ytcfhdogmkbfnhaa
