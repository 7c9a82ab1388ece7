import Derived.Test.YtcfhdogmkbfnhaaVcgR
import Derived.Test.YtcfhdogmkbfnhaaFieldM
/- The laws' own helpers over slices of slices of bytes. -/
set_option linter.unusedSimpArgs false
set_option linter.unusedVariables false
namespace Go.Proofs.Ytcfhdogmkbfnhaa
open Go Go.Vc
set_option maxRecDepth 10000
set_option maxHeartbeats 4000000
/-- How many bytes parts have. -/
def sumD (D : List (List UInt8 × Nat)) : Nat := (D.map fun p => p.1.length).sum
theorem sumD_succ {D : List (List UInt8 × Nat)} {i : Nat} {p : List UInt8 × Nat} (h : D[i]? = some p) : sumD (D.take (i + 1)) = sumD (D.take i) + p.1.length := by
  unfold sumD
  rw [List.take_add_one, h, List.map_append, List.sum_append]
  simp
theorem sumD_le (D : List (List UInt8 × Nat)) (i : Nat) : sumD (D.take i) ≤ sumD D := by
  have : sumD D = sumD (D.take i) + sumD (D.drop i) := by
    unfold sumD
    rw [← List.sum_append, ← List.map_append, List.take_append_drop]
  omega
theorem c_laws_szByteS (n c m : Nat) (l : List UInt8) (hl : l.length = n) (hm : n ≤ maxLen) (h20 : m ≤ 1048576) : LC Try.prog 61 [.s 0 0 n c, .c (.int .i64 (m))] [⟨false, bs l⟩] (fun v hp => v = .c (.int .i64 ((if n ≤ m then (m : Int) - n else -1))) ∧ hp = [⟨false, bs l⟩]) := by
  unfold maxLen at hm
  have e : IntKind.i64.wrap ((m : Int) - (n : Int)) = (m : Int) - n := wrap_i64 (by omega) (by omega)
  refine LC_of (X := XX (fun _ => .nil) (fun _ => []) [19, 20, 48, 49, 59, 72, 93, 112, 174] 1) envOK Try.func61 (by kernel_rfl) (by kernel_rfl) rfl (Nat.le_of_ble_eq_true (by kernel_rfl)) ?_
  simp only [kFun, Try.f61, List.length_nil, List.length_cons, Nat.sub_zero, Nat.reduceSub, Nat.reduceAdd, List.nil_append, List.cons_append, List.replicate_succ, List.replicate_zero]
  simp only [XX, ↓VC, VP, TT, List.getElem?_toArray, Nat.reduceEqDiff, reduceCtorEq, Nat.reduceAdd, Nat.reduceSub, Nat.reduceLT, Nat.reduceMul, Nat.reducePow, Nat.reduceLeDiff, Int.reduceToNat, Int.reduceLE, Int.reduceLT, Int.reducePow, e]
  refine ⟨fun h => ⟨_, _, [0], ⟨rfl, rfl⟩, ?_⟩, fun h => ⟨_, _, [0], ⟨rfl, rfl⟩, ?_⟩⟩
  · rw [if_neg (by omega)]; simp [-List.reduceReplicate, LES]
  · rw [if_pos (by omega)]; simp [-List.reduceReplicate, LES]
theorem c_laws_szByteSS (D : List (List UInt8 × Nat)) (c m : Nat) (hm : D.length ≤ maxLen) (hp : ∀ p ∈ D, p.1.length ≤ maxLen) (h20 : m ≤ 1048576) : LC Try.prog 11 [.s 0 0 D.length c, .c (.int .i64 (m))] (⟨false, ptrV 1 (bPs D)⟩ :: partB false (bPs D))
    (fun v hp => v = .c (.int .i64 ((if D.length + sumD D ≤ m then (m : Int) - (D.length + sumD D : Nat) else -1))) ∧ hp = ⟨false, ptrV 1 (bPs D)⟩ :: partB false (bPs D)) := by
  have hm' := hm
  unfold maxLen at hm'
  have e : IntKind.i64.wrap ((m : Int) - (D.length : Int)) = (m : Int) - D.length := wrap_i64 (by omega) (by omega)
  refine LC_of (X := XX (fun _ => .nil) (fun _ => []) [19, 20, 48, 49, 59, 72, 93, 112, 174] (D.length + 1)) envOK Try.func11 (by kernel_rfl) (by kernel_rfl) (by simp [XX, partB_length, bPs_length]) (Nat.le_of_ble_eq_true (by kernel_rfl)) ?_
  simp only [kFun, Try.f11, List.length_nil, List.length_cons, Nat.sub_zero, Nat.reduceSub, Nat.reduceAdd, List.nil_append, List.cons_append, List.replicate_succ, List.replicate_zero]
  simp only [XX, ↓VC, VP, TT, List.getElem?_toArray, Nat.reduceEqDiff, reduceCtorEq, Nat.reduceAdd, Nat.reduceSub, Nat.reduceLT, Nat.reduceMul, Nat.reducePow, Nat.reduceLeDiff, Int.reduceToNat, Int.reduceLE, Int.reduceLT, Int.reducePow, e, partB_length, bPs_length]
  refine ⟨fun h => ⟨_, _, List.range (D.length + 1), ⟨rfl, rfl⟩, ?_⟩, fun h => ?_⟩
  · rw [if_neg (by omega)]
    exact LeS_id (by simp [partB_length, bPs_length]) (Nat.le_refl _) (List.append_nil _).symm (by simp [leT]) (by simp [stL, stV]) (stB_nest (by rw [bPs_length]; omega) bPs_st)
  refine kLoop_of (fun i : Nat => ([.s 0 0 D.length c, .c (.int .i64 ((m - D.length - sumD (D.take i) : Nat))), .j, .j, .j, .c (.int .i64 (i)), .j, .j, .j, .j, .j, .j, .j, .j, .j, .j, .j, .j, .j, .j, .j, .j, .j, .j, .j, .j, .j], ⟨false, ptrV 1 (bPs D)⟩ :: partB false (bPs D))) (fun i => D.length - i) (fun i => i ≤ D.length ∧ D.length + sumD (D.take i) ≤ m) 0 ⟨by omega, by simp [sumD]; omega⟩
    ⟨List.range (D.length + 1), LeS_id (by simp [partB_length, bPs_length]) (Nat.le_refl _) (List.append_nil _).symm (by simp [leT, sumD]; omega) (by simp [stL, stV]) (stB_nest (by rw [bPs_length]; omega) bPs_st)⟩ ?_
  rintro i ⟨hi, hs⟩
  rcases Nat.lt_or_ge i D.length with h1 | h1
  · have hpi : D[i]? = some D[i] := List.getElem?_eq_getElem h1
    generalize D[i] = p at hpi
    have hL := bPs_get hpi
    have hss := sumD_succ hpi
    simp only [↓VC, VP, TT, List.getElem?_toArray, Nat.reduceEqDiff, reduceCtorEq, Nat.reduceAdd, Nat.reduceSub, Nat.reduceLT, Nat.reduceMul, Nat.reducePow, Nat.reduceLeDiff, Int.reduceToNat, Int.reduceLE, Int.reduceLT, Int.reducePow, (eq_true (by omega) : ((i : Int) < (D.length : Int)) = True), decide_true, ↓vGet_ptrV0 hL, bP, ptrV_length, bPs_length]
    have hpm := hp p (List.mem_of_getElem? hpi)
    have hlk : ((⟨false, ptrV 1 (bPs D)⟩ : Blk) :: partB false (bPs D))[i + 1]? = some ⟨false, bs p.1⟩ := partB_get0 hL
    refine kCall_val (c_laws_szByteS p.1.length p.2 (m - D.length - sumD (D.take i)) p.1 rfl hpm (by omega)) (by rfl) [(1 + i, 0)] (by simp [CALL, cellsAt, tk, take_room, bs_length, bs_nil, ptrV_length, partB_length, bPs_length, stL, ↓hlk, Nat.add_comm 1 i, h1, bP]) (by simp [CALL, cellsAt, tk, take_room, bs_length, bs_nil, ptrV_length, partB_length, bPs_length, stL, ↓hlk, Nat.add_comm 1 i, h1, bP]) (by simp [CALL, cellsAt, tk, take_room, bs_length, bs_nil, ptrV_length, partB_length, bPs_length, stL, ↓hlk, Nat.add_comm 1 i, h1, bP]) (by simp [okL_bs, okL_room, okL, okV, ptrV_length, partB_length, bPs_length, stL, ↓hlk, Nat.add_comm 1 i, h1, bP]) ?_
    simp (config := { maxSteps := 2000000 }) only [CALL, ↓VC, VP, TT, List.getElem?_toArray, Nat.reduceEqDiff, reduceCtorEq, Nat.reduceAdd, Nat.reduceSub, Nat.reduceLT, Nat.reduceMul, Nat.reducePow, Nat.reduceLeDiff, Int.reduceToNat, Int.reduceLE, Int.reduceLT, Int.reducePow, instL_room, Bool.not_true, Bool.not_false, ptrV_length, partB_length, bPs_length, bP]
    refine ⟨fun h2 => ?_, fun h2 => ?_⟩
    · refine ⟨_, _, List.range (D.length + 1), ⟨rfl, rfl⟩, ?_⟩
      have := sumD_le D (i + 1)
      rw [if_neg (by split at h2 <;> omega)]
      exact LeS_id (by simp [partB_length, bPs_length]) (Nat.le_refl _) (List.append_nil _).symm (by simp [leT]) (by simp [stL, stV]) (stB_nest (by rw [bPs_length]; omega) bPs_st)
    · have hle : p.1.length ≤ m - D.length - sumD (D.take i) := by
        by_cases h3 : p.1.length ≤ m - D.length - sumD (D.take i)
        · exact h3
        · rw [if_neg h3] at h2; omega
      refine ⟨i + 1, ⟨by omega, by omega⟩, by omega, List.range (D.length + 1), ?_⟩
      rw [if_pos hle, wrap_i64 (by omega) (by omega), show ((m - D.length - sumD (D.take i) : Nat) : Int) - (p.1.length : Int) = ((m - D.length - sumD (D.take (i + 1)) : Nat) : Int) by omega]
      exact LeS_id (by simp [partB_length, bPs_length]) (Nat.le_refl _) (List.append_nil _).symm (by simp [leT]) (by simp [stL, stV]) (stB_nest (by rw [bPs_length]; omega) bPs_st)
  · obtain rfl : i = D.length := by omega
    simp only [↓VC, VP, TT, List.getElem?_toArray, Nat.reduceEqDiff, reduceCtorEq, Nat.reduceAdd, Nat.reduceSub, Nat.reduceLT, Nat.reduceMul, Nat.reducePow, Nat.reduceLeDiff, Int.reduceToNat, Int.reduceLE, Int.reduceLT, Int.reducePow, (eq_false (by omega) : ((D.length : Int) < (D.length : Int)) = False), decide_false]
    refine ⟨_, _, List.range (D.length + 1), ⟨rfl, rfl⟩, ?_⟩
    rw [List.take_length] at hs
    rw [if_pos hs]
    exact LeS_id (by simp [partB_length, bPs_length]) (Nat.le_refl _) (List.append_nil _).symm (by simp [leT]; omega) (by simp [stL, stV]) (stB_nest (by rw [bPs_length]; omega) bPs_st)
/-- The same bytes in slices without room. -/
def cpD (D : List (List UInt8 × Nat)) : List (List UInt8 × Nat) := D.map fun p => (p.1, p.1.length)
theorem cpD_length (D : List (List UInt8 × Nat)) : (cpD D).length = D.length := by simp [cpD]
theorem cpD_get {D : List (List UInt8 × Nat)} {i : Nat} {p : List UInt8 × Nat} (h : D[i]? = some p) : (cpD D)[i]? = some (p.1, p.1.length) := by simp [cpD, List.getElem?_map, h]
theorem nils_set {A : List V} {v : V} {n i : Nat} (hA : A.length = i) (h : i < n) : (A ++ List.replicate (n - i) (V.c (.slice none 0 0))).set i v = (A ++ [v]) ++ List.replicate (n - (i + 1)) (V.c (.slice none 0 0)) := by
  rw [List.set_append_right _ _ (by omega), hA, Nat.sub_self, show n - i = (n - (i + 1)) + 1 by omega, List.replicate_succ, List.set_cons_zero, List.append_assoc]; rfl
theorem flat_one {n : Nat} {v : V} : (List.replicate n [v]).flatten = List.replicate n v := by
  induction n with
  | zero => rfl
  | succ n ih => rw [List.replicate_succ, List.flatten_cons, ih]; rfl
theorem c_laws_toByteSS (D : List (List UInt8 × Nat)) (c : Nat) (hc : D.length ≤ c) (hm : D.length ≤ 1048576) (hp : ∀ p ∈ D, p.1.length ≤ p.2 ∧ p.1.length ≤ 1048576) : LC Try.prog 15 [.s 0 0 D.length c] (⟨false, ptrV 1 (bPs D)⟩ :: partB false (bPs D))
    (Ret (⟨false, ptrV 1 (bPs D)⟩ :: partB false (bPs D)) (fun _ : Unit => True) fun _ => (.s (D.length + 1) 0 D.length D.length, ⟨true, ptrV (D.length + 2) (bPs (cpD D))⟩ :: partB true (bPs (cpD D)))) := by
  refine LC_of (X := XX (fun _ => .nil) (fun _ => []) [19, 20, 48, 49, 59, 72, 93, 112, 174] (D.length + 1)) envOK Try.func15 (by kernel_rfl) (by kernel_rfl) (by simp [XX, partB_length, bPs_length]) (Nat.le_of_ble_eq_true (by kernel_rfl)) ?_
  simp only [kFun, Try.f15, List.length_nil, List.length_cons, Nat.sub_zero, Nat.reduceSub, Nat.reduceAdd, List.nil_append, List.cons_append, List.replicate_succ, List.replicate_zero]
  simp only [XX, ↓VC, VP, TT, List.getElem?_toArray, Nat.reduceEqDiff, reduceCtorEq, Nat.reduceAdd, Nat.reduceSub, Nat.reduceLT, Nat.reduceMul, Nat.reducePow, Nat.reduceLeDiff, Int.reduceToNat, Int.reduceLE, Int.reduceLT, Int.reducePow, partB_length, bPs_length, flat_one]
  refine ⟨by omega, by omega, by omega, ?_⟩
  have hPn := bPs_length D
  have hQn : (bPs (cpD D)).length = D.length := by rw [bPs_length, cpD_length]
  have hPs : ∀ {N : Nat}, ∀ p ∈ bPs D, stL N p.cells := fun {N} => bPs_st
  have hQs : ∀ {N : Nat}, ∀ p ∈ bPs (cpD D), stL N p.cells := fun {N} => bPs_st
  generalize hP : bPs D = P at *
  generalize hQ : bPs (cpD D) = Q at *
  refine kLoop_of (fun i : Nat => ([.s 0 0 D.length c, .j, .j, .s (D.length + 1) 0 D.length D.length, .c (.int .i64 (i)), .j, .j, .j, .j, .j, .j, .j, .j, .j, .j, .j, .j, .j, .j, .j, .j, .j, .j], ⟨false, ptrV 1 P⟩ :: (partB false P ++ (⟨true, ptrV (D.length + 2) (Q.take i) ++ List.replicate (D.length - i) (.c (.slice none 0 0))⟩ :: partB true (Q.take i))))) (fun i => D.length - i) (fun i => i ≤ D.length) 0 (by omega)
    ⟨List.range (D.length + 2), ?_⟩ ?_
  · refine LeS_id (ex := []) (by simp [partB_length, hPn]) (Nat.le_succ _) (by simp [partB, ptrV]) (by simp [leT]) (by simp [stL, stV]) ?_
    exact stB_cons (stL_ptrV (by omega)) (stB_app (stB_part hPs) (stB_cons (stL_app.2 ⟨trivial, stL_repc _ _ _⟩) stB_nil))
  intro i hi
  rcases Nat.lt_or_ge i D.length with h1 | h1
  · have hpi : D[i]? = some D[i] := List.getElem?_eq_getElem h1
    generalize D[i] = p at hpi
    have hL : P[i]? = some (bP p) := by rw [← hP]; exact bPs_get hpi
    have hM : Q[i]? = some (bP (p.1, p.1.length)) := by rw [← hQ]; exact bPs_get (cpD_get hpi)
    obtain ⟨hp1, hp2⟩ := hp p (List.mem_of_getElem? hpi)
    have hlk : ∀ R, ((⟨false, ptrV 1 P⟩ : Blk) :: (partB false P ++ R))[i + 1]? = some ⟨false, bs p.1⟩ := fun R => partB_get hL
    have hmn : min i Q.length = i := by omega
    have hlt : i < D.length + (i + 1) := by omega
    have hrep : List.replicate (D.length - i) (V.c (.slice none 0 0)) = V.c (.slice none 0 0) :: List.replicate (D.length - (i + 1)) (V.c (.slice none 0 0)) := by rw [show D.length - i = (D.length - (i + 1)) + 1 by omega, List.replicate_succ]
    have hTl : (ptrV (D.length + 2) (Q.take i)).length = i := by rw [ptrV_length, List.length_take]; omega
    simp only [↓VC, VP, TT, List.getElem?_toArray, Nat.reduceEqDiff, reduceCtorEq, Nat.reduceAdd, Nat.reduceSub, Nat.reduceLT, Nat.reduceMul, Nat.reducePow, Nat.reduceLeDiff, Int.reduceToNat, Int.reduceLE, Int.reduceLT, Int.reducePow, (eq_true (by omega) : ((i : Int) < (D.length : Int)) = True), decide_true, ↓vGet_ptrV0 hL, bP, ptrV_length, hPn]
    refine kCall_Ret (c_laws_toByteS p.1 p.2 hp1 (by omega)) (by rfl) [(1 + i, 0)] (by simp [CALL, cellsAt, tk, take_room, bs_length, bs_nil, ptrV_length, partB_length, bPs_length, stL, ↓hlk, Nat.add_comm 1 i, h1, hPn, hmn, hlt]) (by simp [CALL, cellsAt, tk, take_room, bs_length, bs_nil, ptrV_length, partB_length, bPs_length, stL, ↓hlk, Nat.add_comm 1 i, h1, hPn, hmn, hlt]) (by simp [CALL, cellsAt, tk, take_room, bs_length, bs_nil, ptrV_length, partB_length, bPs_length, stL, ↓hlk, Nat.add_comm 1 i, h1, hPn, hmn, hlt]) (by simp [okL_bs, okL_room, okL, okV, ptrV_length, partB_length, bPs_length, stL, ↓hlk, Nat.add_comm 1 i, h1, hPn, hmn, hlt]) (by simp [CALL, cellsAt, tk, take_room, bs_length, bs_nil, ptrV_length, partB_length, bPs_length, stL, ↓hlk, Nat.add_comm 1 i, h1, hPn, hmn, hlt]) fun _ _ => ?_
    simp (config := { maxSteps := 2000000 }) only [CALL, ↓VC, VP, TT, List.getElem?_toArray, Nat.reduceEqDiff, reduceCtorEq, Nat.reduceAdd, Nat.reduceSub, Nat.reduceLT, Nat.reduceMul, Nat.reducePow, Nat.reduceLeDiff, Int.reduceToNat, Int.reduceLE, Int.reduceLT, Int.reducePow, instL_room, Bool.not_true, Bool.not_false, ptrV_length, partB_length, bPs_length, bP, List.append_assoc, List.cons_append, partB_skip0 hPn, partB_set0 hPn, hPn, hQn, hTl, hrep]
    refine ⟨by omega, i + 1, by omega, by omega, List.range (D.length + 2 + (i + 1)), ?_⟩
    rw [ptrV_succ hM, partB_succ hM, wrap_i64 (by omega) (by omega)]
    refine LeS_id (ex := []) (by simp [partB_length, hPn, hmn]; omega) (show D.length + 1 ≤ D.length + 2 + (i + 1) by omega) (by simp [bP, List.length_take, hmn]; omega) (by simp [leT]) (by simp [stL, stV]; omega) ?_
    exact stB_cons (stL_ptrV (by omega)) (stB_app (stB_part hPs) (stB_cons (stL_app.2 ⟨stL_app.2 ⟨stL_ptrV (by rw [List.length_take]; omega), show _ ∧ True from ⟨show D.length + 2 + i < _ by omega, trivial⟩⟩, stL_repc _ _ _⟩) (stB_app (stB_part fun p hp => hQs p (List.mem_of_mem_take hp)) (stB_cons (stL_bs _ _) stB_nil))))
  · obtain rfl : i = D.length := by omega
    simp only [↓VC, VP, TT, List.getElem?_toArray, Nat.reduceEqDiff, reduceCtorEq, Nat.reduceAdd, Nat.reduceSub, Nat.reduceLT, Nat.reduceMul, Nat.reducePow, Nat.reduceLeDiff, Int.reduceToNat, Int.reduceLE, Int.reduceLT, Int.reducePow, (eq_false (by omega) : ((D.length : Int) < (D.length : Int)) = False), decide_false]
    rw [List.take_of_length_le (by omega)]
    refine ⟨_, _, List.range (D.length + 2 + D.length), ⟨(), trivial, rfl, rfl⟩, ?_⟩
    refine LeS_id (ex := []) (by simp [partB_length, hPn, hQn]; omega) (by omega) (by simp) (by simp [leT]) (by simp [stL, stV]; omega) ?_
    exact stB_app (stB_cons (stL_ptrV (by omega)) (stB_part hPs)) (stB_cons (stL_ptrV (by omega)) (stB_part hQs))
theorem c_laws_eqByteSS (D : List (List UInt8 × Nat)) (c1 c2 : Nat) (hc1 : D.length ≤ c1) (hc2 : D.length ≤ c2) (hm : D.length ≤ 1048576) (hp : ∀ p ∈ D, p.1.length ≤ p.2 ∧ p.1.length ≤ 1048576) : LC Try.prog 18 [.s 0 0 D.length c1, .s 1 0 D.length c2] (⟨false, ptrV 2 (bPs D)⟩ :: ⟨false, ptrV (D.length + 2) (bPs D)⟩ :: (partB false (bPs D) ++ partB false (bPs D)))
    (fun v hp => v = .c (.bool (true)) ∧ hp = (⟨false, ptrV 2 (bPs D)⟩ :: ⟨false, ptrV (D.length + 2) (bPs D)⟩ :: (partB false (bPs D) ++ partB false (bPs D)))) := by
  refine LC_of (X := XX (fun | 6 => .one 0 (.one 1 (.one 2 (.one 3 (.one 4 (.one 5 (.one 6 (.one 7 (.one 8 (.one 9 .nil))))))))) | _ => .nil) (fun _ => []) [19, 20, 48, 49, 59, 72, 93, 112, 174] (D.length + D.length + 2)) envOK Try.func18 (by kernel_rfl) (by kernel_rfl) (by simp [XX, partB_length, bPs_length]) (Nat.le_of_ble_eq_true (by kernel_rfl)) ?_
  simp only [kFun, Try.f18, List.length_nil, List.length_cons, Nat.sub_zero, Nat.reduceSub, Nat.reduceAdd, List.nil_append, List.cons_append, List.replicate_succ, List.replicate_zero]
  simp only [XX, ↓VC, VP, TT, List.getElem?_toArray, Nat.reduceEqDiff, reduceCtorEq, Nat.reduceAdd, Nat.reduceSub, Nat.reduceLT, Nat.reduceMul, Nat.reducePow, Nat.reduceLeDiff, Int.reduceToNat, Int.reduceLE, Int.reduceLT, Int.reducePow, partB_length, bPs_length, bne_self_eq_false]
  have hPn := bPs_length D
  have hPs : ∀ {N : Nat}, ∀ p ∈ bPs D, stL N p.cells := fun {N} => bPs_st
  generalize hP : bPs D = P at *
  refine kLoop_of (fun i : Nat => ([.s 0 0 D.length c1, .s 1 0 D.length c2, .j, .j, .j, .c (.int .i64 (i)), .j, .j, .j, .j, .j, .j, .j, .j, .j, .j, .j, .j, .j, .j, .j, .j, .j, .j, .j, .j, .j], (⟨false, ptrV 2 P⟩ :: ⟨false, ptrV (D.length + 2) P⟩ :: (partB false P ++ partB false P)))) (fun i => D.length - i) (fun i => i ≤ D.length) 0 (by omega) ⟨List.range (D.length + D.length + 2), ?_⟩ ?_
  · refine LeS_id (ex := []) (by simp [partB_length, hPn]) (Nat.le_refl _) (by simp) (by simp [leT]) (by simp [stL, stV]) ?_
    exact stB_cons (stL_ptrV (by omega)) (stB_cons (stL_ptrV (by omega)) (stB_app (stB_part hPs) (stB_part hPs)))
  intro i hi
  rcases Nat.lt_or_ge i D.length with h1 | h1
  · have hpi : D[i]? = some D[i] := List.getElem?_eq_getElem h1
    generalize D[i] = p at hpi
    have hL : P[i]? = some (bP p) := by rw [← hP]; exact bPs_get hpi
    obtain ⟨hp1, hp2⟩ := hp p (List.mem_of_getElem? hpi)
    have hlk : ∀ R, ((⟨false, ptrV 2 P⟩ : Blk) :: ⟨false, ptrV (D.length + 2) P⟩ :: (partB false P ++ R))[i + 2]? = some ⟨false, bs p.1⟩ := fun R => partB_get hL
    have hlk2 : ((⟨false, ptrV 2 P⟩ : Blk) :: ⟨false, ptrV (D.length + 2) P⟩ :: (partB false P ++ partB false P))[D.length + i + 2]? = some ⟨false, bs p.1⟩ := by
      show (partB false P ++ partB false P)[D.length + i]? = _
      rw [partB_skip hPn]; exact partB_get0 hL
    have hi2 : 2 + i = i + 2 := by omega
    have hi3 : D.length + 2 + i = D.length + i + 2 := by omega
    simp only [↓VC, VP, TT, List.getElem?_toArray, Nat.reduceEqDiff, reduceCtorEq, Nat.reduceAdd, Nat.reduceSub, Nat.reduceLT, Nat.reduceMul, Nat.reducePow, Nat.reduceLeDiff, Int.reduceToNat, Int.reduceLE, Int.reduceLT, Int.reducePow, (eq_true (by omega) : ((i : Int) < (D.length : Int)) = True), decide_true, ↓vGet_ptrV0 hL, bP, ptrV_length, hPn, hi2, hi3]
    have hg1 : i < D.length + D.length := by omega
    refine kCall_val (c_laws_eqByteS p.1 p.1 p.2 p.2 hp1 hp1 (by omega)) (by rfl) [(i + 2, 0), (D.length + i + 2, 0)] (by simp [CALL, cellsAt, tk, take_room, bs_length, bs_nil, ptrV_length, partB_length, bPs_length, stL, ↓hlk, ↓hlk2, h1, hg1, hPn]) (by simp [CALL, cellsAt, tk, take_room, bs_length, bs_nil, ptrV_length, partB_length, bPs_length, stL, ↓hlk, ↓hlk2, h1, hg1, hPn]) (by simp [CALL, cellsAt, tk, take_room, bs_length, bs_nil, ptrV_length, partB_length, bPs_length, stL, ↓hlk, ↓hlk2, h1, hg1, hPn]) (by simp [okL_bs, okL_room, okL, okV, ptrV_length, partB_length, bPs_length, stL, ↓hlk, ↓hlk2, h1, hg1, hPn]) ?_
    simp (config := { maxSteps := 2000000 }) only [CALL, ↓VC, VP, TT, List.getElem?_toArray, Nat.reduceEqDiff, reduceCtorEq, Nat.reduceAdd, Nat.reduceSub, Nat.reduceLT, Nat.reduceMul, Nat.reducePow, Nat.reduceLeDiff, Int.reduceToNat, Int.reduceLE, Int.reduceLT, Int.reducePow, instL_room, Bool.not_true, Bool.not_false, ptrV_length, partB_length, bPs_length, bP, beq_self_eq_true, Bool.not_true]
    refine ⟨i + 1, by omega, by omega, List.range (D.length + D.length + 2), ?_⟩
    rw [wrap_i64 (by omega) (by omega)]
    refine LeS_id (ex := []) (by simp [partB_length, hPn]) (Nat.le_refl _) (by simp) (by simp [leT]) (by simp [stL, stV]) ?_
    exact stB_cons (stL_ptrV (by omega)) (stB_cons (stL_ptrV (by omega)) (stB_app (stB_part hPs) (stB_part hPs)))
  · obtain rfl : i = D.length := by omega
    simp only [↓VC, VP, TT, List.getElem?_toArray, Nat.reduceEqDiff, reduceCtorEq, Nat.reduceAdd, Nat.reduceSub, Nat.reduceLT, Nat.reduceMul, Nat.reducePow, Nat.reduceLeDiff, Int.reduceToNat, Int.reduceLE, Int.reduceLT, Int.reducePow, (eq_false (by omega) : ((D.length : Int) < (D.length : Int)) = False), decide_false]
    refine ⟨_, _, List.range (D.length + D.length + 2), ⟨rfl, rfl⟩, ?_⟩
    refine LeS_id (ex := []) (by simp [partB_length, hPn]) (Nat.le_refl _) (by simp) (by simp [leT]) (by simp [stL, stV]) ?_
    exact stB_cons (stL_ptrV (by omega)) (stB_cons (stL_ptrV (by omega)) (stB_app (stB_part hPs) (stB_part hPs)))
/-- Marks, part by part. -/
def mkD (k : Nat) (D : List (List UInt8 × Nat)) : List (List UInt8 × Nat) := (List.range D.length).map fun i => (markL (k + sumD (D.take i)) (D.getD i default).1.length, (D.getD i default).2)
theorem mkD_length (k : Nat) (D : List (List UInt8 × Nat)) : (mkD k D).length = D.length := by simp [mkD]
theorem mkD_get {k : Nat} {D : List (List UInt8 × Nat)} {i : Nat} {p : List UInt8 × Nat} (h : D[i]? = some p) : (mkD k D)[i]? = some (markL (k + sumD (D.take i)) p.1.length, p.2) := by
  have hi := (List.getElem?_eq_some_iff.1 h).1
  rw [mkD, List.getElem?_map, List.getElem?_range hi, Option.map_some, List.getD_eq_getElem?_getD, h]; rfl
def mkI (k : Nat) (D : List (List UInt8 × Nat)) (i : Nat) : List (List UInt8 × Nat) := (mkD k D).take i ++ D.drop i
theorem mkI_len {k : Nat} {D : List (List UInt8 × Nat)} {i : Nat} (h : i ≤ D.length) : (mkI k D i).length = D.length := by
  rw [mkI, List.length_append, List.length_take, List.length_drop, mkD_length]; omega
theorem mkI_get {k : Nat} {D : List (List UInt8 × Nat)} {i : Nat} {p : List UInt8 × Nat} (h : D[i]? = some p) : (mkI k D i)[i]? = some p := by
  have hi := (List.getElem?_eq_some_iff.1 h).1
  rw [mkI, List.getElem?_append_right (by rw [List.length_take, mkD_length]; omega), List.length_take, mkD_length, Nat.min_eq_left (by omega), Nat.sub_self, List.getElem?_drop, Nat.add_zero, h]
theorem mkI_set {k : Nat} {D : List (List UInt8 × Nat)} {i : Nat} {p : List UInt8 × Nat} (h : D[i]? = some p) : (mkI k D i).set i (markL (k + sumD (D.take i)) p.1.length, p.2) = mkI k D (i + 1) := by
  have hi := (List.getElem?_eq_some_iff.1 h).1
  have e1 : D.drop i = D[i] :: D.drop (i + 1) := List.drop_eq_getElem_cons hi
  have e2 : (mkD k D).take (i + 1) = (mkD k D).take i ++ [(markL (k + sumD (D.take i)) p.1.length, p.2)] := by rw [List.take_add_one, mkD_get h]; rfl
  rw [mkI, mkI, e2, e1, List.set_append_right _ _ (by rw [List.length_take, mkD_length]; omega), List.length_take, mkD_length, Nat.min_eq_left (by omega), Nat.sub_self, List.set_cons_zero, List.append_assoc]
  rfl
theorem mkI_all {k : Nat} {D : List (List UInt8 × Nat)} : mkI k D D.length = mkD k D := by
  rw [mkI, List.take_of_length_le (by rw [mkD_length]; exact Nat.le_refl _), List.drop_of_length_le (Nat.le_refl _), List.append_nil]
theorem partB_bPs_set {own : Bool} {L : List (List UInt8 × Nat)} {i : Nat} {x : List UInt8 × Nat} : (partB own (bPs L)).set i ⟨own, bs x.1⟩ = partB own (bPs (L.set i x)) := by
  simp [partB, bPs, List.map_set, bP]
theorem c_laws_markByteSS (D : List (List UInt8 × Nat)) (c k : Nat) (hc : D.length ≤ c) (hm : D.length ≤ 1048576) (hp : ∀ p ∈ D, p.1.length ≤ p.2 ∧ p.1.length ≤ 1048576) (hk : k + sumD D ≤ 4294967296) : LC Try.prog 19 [.s 0 0 D.length c, .c (.int .i64 ((k : Nat)))] (⟨false, ptrV 1 (bPs D)⟩ :: partB true (bPs D))
    (RetM (fun _ : Unit => True) fun _ => (.c (.int .i64 ((k + sumD D : Nat))), ⟨false, ptrV 1 (bPs D)⟩ :: partB true (bPs (mkD k D)), [])) := by
  have hPn := bPs_length D
  refine LC_of (X := XX (fun _ => .nil) (fun _ => []) [19, 20, 48, 49, 59, 72, 93, 112, 174] (D.length + 1)) envOK Try.func19 (by kernel_rfl) (by kernel_rfl) (by simp [XX, partB_length, bPs_length]) (Nat.le_of_ble_eq_true (by kernel_rfl)) ?_
  simp only [kFun, Try.f19, List.length_nil, List.length_cons, Nat.sub_zero, Nat.reduceSub, Nat.reduceAdd, List.nil_append, List.cons_append, List.replicate_succ, List.replicate_zero]
  simp only [XX, ↓VC, VP, TT, List.getElem?_toArray, Nat.reduceEqDiff, reduceCtorEq, Nat.reduceAdd, Nat.reduceSub, Nat.reduceLT, Nat.reduceMul, Nat.reducePow, Nat.reduceLeDiff, Int.reduceToNat, Int.reduceLE, Int.reduceLT, Int.reducePow, partB_length, bPs_length]
  refine kLoop_of (fun i : Nat => ([.s 0 0 D.length c, .c (.int .i64 ((k + sumD (D.take i) : Nat))), .j, .j, .j, .c (.int .i64 (i)), .j, .j, .j, .j, .j, .j, .j, .j, .j, .j, .j, .j, .j], (⟨false, ptrV 1 (bPs D)⟩ :: partB true (bPs (mkI k D i))))) (fun i => D.length - i) (fun i => i ≤ D.length) 0 (by omega) ⟨List.range (D.length + 1), ?_⟩ ?_
  · refine LeS_id (ex := []) (by simp [partB_length, bPs_length, mkI_len]) (Nat.le_refl _) (by simp [mkI]) (by simp [leT, sumD]) (by simp [stL, stV]) ?_
    exact stB_cons (stL_ptrV (by omega)) (stB_part bPs_st)
  intro i hi
  rcases Nat.lt_or_ge i D.length with h1 | h1
  · have hpi : D[i]? = some D[i] := List.getElem?_eq_getElem h1
    generalize D[i] = p at hpi
    have hL : (bPs D)[i]? = some (bP p) := bPs_get hpi
    have hM : (bPs (mkI k D i))[i]? = some (bP p) := bPs_get (mkI_get hpi)
    obtain ⟨hp1, hp2⟩ := hp p (List.mem_of_getElem? hpi)
    have hs1 := sumD_succ hpi
    have hs2 := sumD_le D (i + 1)
    have hlk : ((⟨false, ptrV 1 (bPs D)⟩ : Blk) :: partB true (bPs (mkI k D i)))[i + 1]? = some ⟨true, bs p.1⟩ := partB_get0 hM
    have hset : ((⟨false, ptrV 1 (bPs D)⟩ : Blk) :: partB true (bPs (mkI k D i))).set (i + 1) ⟨true, bs (markL (k + sumD (D.take i)) p.1.length)⟩ = ⟨false, ptrV 1 (bPs D)⟩ :: partB true (bPs (mkI k D (i + 1))) := by
      rw [List.set_cons_succ, ← mkI_set hpi, ← partB_bPs_set]
    have hln : ((⟨false, ptrV 1 (bPs D)⟩ : Blk) :: partB true (bPs (mkI k D i))).length = D.length + 1 := by simp [partB_length, bPs_length, mkI_len hi]
    simp only [↓VC, VP, TT, List.getElem?_toArray, Nat.reduceEqDiff, reduceCtorEq, Nat.reduceAdd, Nat.reduceSub, Nat.reduceLT, Nat.reduceMul, Nat.reducePow, Nat.reduceLeDiff, Int.reduceToNat, Int.reduceLE, Int.reduceLT, Int.reducePow, (eq_true (by omega) : ((i : Int) < (D.length : Int)) = True), decide_true, ↓vGet_ptrV0 hL, bP, ptrV_length, hPn, Nat.add_comm 1 i]
    have key := c_laws_markByteS p.1 p.2 0 (k + sumD (D.take i)) hp1 (by omega) (by omega)
    simp only [List.replicate_zero, List.append_nil] at key
    refine kCall_M key (by rfl) [(i + 1, 0)] (by simp [CALL]) ⟨.inr ⟨rfl, rfl, by rw [hlk, instL_bs]⟩, trivial⟩ (by simp) (by simp [okL, okV]) (by simp [okL_bs]) (by intro x _; simp [keepR, bs_length, markL_len]) (by simp) fun _ _ => ?_
    simp only [CALL, ↓VC, VP, TT, List.getElem?_toArray, Nat.reduceEqDiff, reduceCtorEq, Nat.reduceAdd, Nat.reduceSub, Nat.reduceLT, Nat.reduceMul, Nat.reducePow, Nat.reduceLeDiff, Int.reduceToNat, Int.reduceLE, Int.reduceLT, Int.reducePow, putSegs, if_true, instL_bs, hset, List.append_nil, List.map_nil]
    refine ⟨i + 1, by omega, by omega, List.range (D.length + 1), ?_⟩
    rw [wrap_i64 (by omega) (by omega)]
    refine LeS_id (ex := []) (by simp [partB_length, bPs_length, mkI_len (show i + 1 ≤ D.length from h1)]) (Nat.le_refl _) (by simp) (by simp [leT]; omega) (by simp [stL, stV]) ?_
    exact stB_cons (stL_ptrV (by omega)) (stB_part bPs_st)
  · obtain rfl : i = D.length := by omega
    simp only [↓VC, VP, TT, List.getElem?_toArray, Nat.reduceEqDiff, reduceCtorEq, Nat.reduceAdd, Nat.reduceSub, Nat.reduceLT, Nat.reduceMul, Nat.reducePow, Nat.reduceLeDiff, Int.reduceToNat, Int.reduceLE, Int.reduceLT, Int.reducePow, (eq_false (by omega) : ((D.length : Int) < (D.length : Int)) = False), decide_false]
    refine ⟨_, _, List.range (D.length + 1), ⟨(), trivial, rfl, (List.append_nil _).symm⟩, ?_⟩
    rw [mkI_all]
    refine LeS_id (ex := []) (by simp [partB_length, bPs_length, mkD_length]) (Nat.le_refl _) (by simp) (by simp [leT]) (by simp [stL, stV]) ?_
    exact stB_cons (stL_ptrV (by omega)) (stB_part bPs_st)
theorem mkD_cells (k : Nat) (D : List (List UInt8 × Nat)) : ∀ (i : Nat) (p q : Prt), (bPs D)[i]? = some p → (bPs (mkD k D))[i]? = some q → q.cells.length = p.cells.length := by
  intro i p q hp hq
  have hi : i < D.length := by have := (List.getElem?_eq_some_iff.1 hp).1; rwa [bPs_length] at this
  have h1 : D[i]? = some D[i] := List.getElem?_eq_getElem hi
  rw [bPs_get h1] at hp
  rw [bPs_get (mkD_get h1)] at hq
  cases hp; cases hq
  simp [bP, bs_length, markL_len]
theorem mkD_ptr (h k : Nat) (D : List (List UInt8 × Nat)) : ptrV h (bPs D) = ptrV h (bPs (mkD k D)) := by
  refine ptrV_same (by simp [bPs_length, mkD_length]) fun i p q hp hq => ?_
  have hi : i < D.length := by have := (List.getElem?_eq_some_iff.1 hp).1; rwa [bPs_length] at this
  have h1 : D[i]? = some D[i] := List.getElem?_eq_getElem hi
  rw [bPs_get h1] at hp
  rw [bPs_get (mkD_get h1)] at hq
  cases hp; cases hq
  simp [bP, markL_len]
end Go.Proofs.Ytcfhdogmkbfnhaa
