/- Leaves and digests of the house: the program and the reference hand back the same. -/
import Derived.Test.YtfokmjfbmhlhdaaNodeOf
import Derived.Test.YtfokmjfbmhlhdaaByteS
set_option linter.unusedSimpArgs false
set_option linter.unusedVariables false
namespace Go.Proofs.Ytfokmjfbmhlhdaa
open Go Go.Vc
set_option maxRecDepth 10000
set_option maxHeartbeats 4000000
def leafD (l : List UInt8) : List UInt8 × Int := if l.length ≤ 1999 then (houseD ([0] ++ l), 0) else (List.replicate 32 0, 2)
def hdD (l : List UInt8) : List UInt8 × Int := if l.length ≤ 2000 then (houseD l, 0) else (List.replicate 32 0, 2)
theorem leafD_len (l : List UInt8) : (leafD l).1.length = 32 := by unfold leafD; split; exact houseD_len _; simp
theorem hdD_len (l : List UInt8) : (hdD l).1.length = 32 := by unfold hdD; split; exact houseD_len _; simp
theorem c_spec_HouseDigest (l : List UInt8) (c : Nat) (hc : l.length ≤ c) : LC Try.prog 25 [.s 0 0 l.length c] [⟨false, bs l⟩] (fun v hp => v = .t [.a (bs (hdD l).1), .c (.int .i64 ((hdD l).2))] ∧ hp = [⟨false, bs l⟩]) := by
  refine LC_of (X := XX (fun _ => .nil) (fun _ => []) [123] 1) envOK Try.func25 (by kernel_rfl) (by kernel_rfl) rfl (Nat.le_of_ble_eq_true (by kernel_rfl)) ?_
  simp only [kFun, Try.f25, List.length_nil, List.length_cons, Nat.sub_zero, Nat.reduceSub, Nat.reduceAdd, List.nil_append, List.cons_append, List.replicate_succ, List.replicate_zero]
  simp only [XX, ↓VC, VP, TT, List.getElem?_toArray, Nat.reduceEqDiff, reduceCtorEq, Nat.reduceAdd, Nat.reduceSub, Nat.reduceLT, Nat.reduceMul, Nat.reducePow, Nat.reduceLeDiff, Int.reduceToNat, Int.reduceLE, Int.reduceLT, Int.reducePow]
  refine ⟨fun h => ?_, fun h => ?_⟩
  · refine ⟨_, _, [0], ⟨rfl, rfl⟩, ?_⟩
    unfold hdD; rw [if_neg (by omega)]; simp [-List.reduceReplicate, LES]
  · refine kCall_val (c_spec_l08Digest l c hc (by omega)) (by rfl) [(0, 0)] (by simp [CALL]) (by simp [CALL, cellsAt]) (by simp [CALL]) (by simp [okL_bs]) ?_
    simp only [CALL, ↓VC, VP, TT, List.getElem?_toArray, Nat.reduceEqDiff, reduceCtorEq, Nat.reduceAdd, Nat.reduceSub, Nat.reduceLT, Nat.reduceMul, Nat.reducePow, Nat.reduceLeDiff, Int.reduceToNat, Int.reduceLE, Int.reduceLT, Int.reducePow, houseD_len]
    refine ⟨_, _, [0], ⟨rfl, rfl⟩, ?_⟩
    unfold hdD; rw [if_pos (by omega)]; simp [-List.reduceReplicate, LES]
theorem c_impl_HouseDigest (l : List UInt8) (c : Nat) (hc : l.length ≤ c) : LC Try.prog 26 [.s 0 0 l.length c] [⟨false, bs l⟩] (fun v hp => v = .t [.a (bs (hdD l).1), .c (.int .i64 ((hdD l).2))] ∧ hp = [⟨false, bs l⟩]) := by
  refine LC_of (X := XX (fun _ => .nil) (fun _ => []) [123] 1) envOK Try.func26 (by kernel_rfl) (by kernel_rfl) rfl (Nat.le_of_ble_eq_true (by kernel_rfl)) ?_
  simp only [kFun, Try.f26, List.length_nil, List.length_cons, Nat.sub_zero, Nat.reduceSub, Nat.reduceAdd, List.nil_append, List.cons_append, List.replicate_succ, List.replicate_zero]
  simp only [XX, ↓VC, VP, TT, List.getElem?_toArray, Nat.reduceEqDiff, reduceCtorEq, Nat.reduceAdd, Nat.reduceSub, Nat.reduceLT, Nat.reduceMul, Nat.reducePow, Nat.reduceLeDiff, Int.reduceToNat, Int.reduceLE, Int.reduceLT, Int.reducePow]
  refine kCall_val (c_impl_isData l c) (by rfl) [(0, 0)] (by simp [CALL]) (by simp [CALL, cellsAt]) (by simp [CALL]) (by simp [okL_bs]) ?_
  simp only [CALL, ↓VC, VP, TT, List.getElem?_toArray, Nat.reduceEqDiff, reduceCtorEq, Nat.reduceAdd, Nat.reduceSub, Nat.reduceLT, Nat.reduceMul, Nat.reducePow, Nat.reduceLeDiff, Int.reduceToNat, Int.reduceLE, Int.reduceLT, Int.reducePow]
  refine ⟨fun h => ?_, fun h => ?_⟩
  · simp only [Bool.not_eq_true', decide_eq_false_iff_not] at h
    refine ⟨_, _, [0], ⟨rfl, rfl⟩, ?_⟩
    unfold hdD; rw [if_neg h]; simp [-List.reduceReplicate, LES]
  · simp only [Bool.not_eq_false', decide_eq_true_eq] at h
    refine kCall_Ret c_house (by rfl) [] (by simp [CALL]) (by simp [CALL]) (by simp [CALL]) (by simp) (by simp [engH]) fun _ _ => ?_
    rw [engH_house]
    simp only [CALL, ↓VC, VP, TT, List.getElem?_toArray, Nat.reduceEqDiff, reduceCtorEq, Nat.reduceAdd, Nat.reduceSub, Nat.reduceLT, Nat.reduceMul, Nat.reducePow, Nat.reduceLeDiff, Int.reduceToNat, Int.reduceLE, Int.reduceLT, Int.reducePow, hB, instL_hEng0, repl1]
    refine kCall_val (h_digest1 l c hc (by omega)) (by rfl) [(2, 0), (3, 0), (4, 0), (5, 0), (0, 0)] (by simp [CALL]) (by simp [CALL, cellsAt, instL_hEng, hEng_take, tk]) (by simp [CALL]) (by simp [okL_bs, okL_hEng, okL, okV]) ?_
    simp only [CALL, ↓VC, VP, TT, List.getElem?_toArray, Nat.reduceEqDiff, reduceCtorEq, Nat.reduceAdd, Nat.reduceSub, Nat.reduceLT, Nat.reduceMul, Nat.reducePow, Nat.reduceLeDiff, Int.reduceToNat, Int.reduceLE, Int.reduceLT, Int.reducePow, houseD_len]
    refine ⟨_, _, [0], ⟨rfl, rfl⟩, ?_⟩
    unfold hdD; rw [if_pos h]; simp [-List.reduceReplicate, LES]
theorem c_spec_LeafOf (l : List UInt8) (c : Nat) (hc : l.length ≤ c) : LC Try.prog 21 [.s 0 0 l.length c] [⟨false, bs l⟩] (fun v hp => v = .t [.a (bs (leafD l).1), .c (.int .i64 ((leafD l).2))] ∧ hp = [⟨false, bs l⟩]) := by
  refine LC_of (X := XX (fun _ => .nil) (fun _ => []) [123] 1) envOK Try.func21 (by kernel_rfl) (by kernel_rfl) rfl (Nat.le_of_ble_eq_true (by kernel_rfl)) ?_
  simp only [kFun, Try.f21, List.length_nil, List.length_cons, Nat.sub_zero, Nat.reduceSub, Nat.reduceAdd, List.nil_append, List.cons_append, List.replicate_succ, List.replicate_zero]
  simp only [XX, ↓VC, VP, TT, List.getElem?_toArray, Nat.reduceEqDiff, reduceCtorEq, Nat.reduceAdd, Nat.reduceSub, Nat.reduceLT, Nat.reduceMul, Nat.reducePow, Nat.reduceLeDiff, Int.reduceToNat, Int.reduceLE, Int.reduceLT, Int.reducePow, bs0]
  refine ⟨fun h => ?_, fun h => ?_⟩
  · refine ⟨_, _, [0], ⟨rfl, rfl⟩, ?_⟩
    unfold leafD; rw [if_neg (by omega)]; simp [-List.reduceReplicate, LES]
  · repeat (refine ⟨by first | omega | (simp; done) | decide, ?_⟩)
    refine fun r1 c1 h1 h1' => ?_
    have hL : ([0] ++ l).length = 1 + l.length := by simp; omega
    have htk : List.take (bs (0 :: l)).length (List.take 1 (splice (bs [0]) 0 (bs [0])) ++ (bs l ++ List.replicate r1 V.j)) = bs (0 :: l) := by
      rw [show List.take 1 (splice (bs [0]) 0 (bs [0])) = bs [0] from rfl, ← List.append_assoc, bs_append]
      exact take_room (by rw [bs_length]; rfl)
    refine kCall_val (c_spec_l08Digest ([0] ++ l) c1 (by omega) (by omega)) (by rfl) [(3, 0)] (by simp [CALL, hL]; omega) (by simp [CALL, cellsAt, htk]) (by simp [CALL]) (by simp [okL_bs]) ?_
    simp only [CALL, ↓VC, VP, TT, List.getElem?_toArray, Nat.reduceEqDiff, reduceCtorEq, Nat.reduceAdd, Nat.reduceSub, Nat.reduceLT, Nat.reduceMul, Nat.reducePow, Nat.reduceLeDiff, Int.reduceToNat, Int.reduceLE, Int.reduceLT, Int.reducePow, houseD_len]
    refine ⟨_, _, [0], ⟨rfl, rfl⟩, ?_⟩
    unfold leafD; rw [if_pos (by omega)]; simp [-List.reduceReplicate, LES]
theorem c_impl_LeafOf (l : List UInt8) (c : Nat) (hc : l.length ≤ c) : LC Try.prog 23 [.s 0 0 l.length c] [⟨false, bs l⟩] (fun v hp => v = .t [.a (bs (leafD l).1), .c (.int .i64 ((leafD l).2))] ∧ hp = [⟨false, bs l⟩]) := by
  refine LC_of (X := XX (fun _ => .nil) (fun _ => []) [123] 1) envOK Try.func23 (by kernel_rfl) (by kernel_rfl) rfl (Nat.le_of_ble_eq_true (by kernel_rfl)) ?_
  simp only [kFun, Try.f23, List.length_nil, List.length_cons, Nat.sub_zero, Nat.reduceSub, Nat.reduceAdd, List.nil_append, List.cons_append, List.replicate_succ, List.replicate_zero]
  simp only [XX, ↓VC, VP, TT, List.getElem?_toArray, Nat.reduceEqDiff, reduceCtorEq, Nat.reduceAdd, Nat.reduceSub, Nat.reduceLT, Nat.reduceMul, Nat.reducePow, Nat.reduceLeDiff, Int.reduceToNat, Int.reduceLE, Int.reduceLT, Int.reducePow, bs0]
  refine ⟨fun h => ?_, fun h => ?_⟩
  · refine ⟨_, _, [0], ⟨rfl, rfl⟩, ?_⟩
    unfold leafD; rw [if_neg (by omega)]; simp [-List.reduceReplicate, LES]
  · refine kCall_Ret c_house (by rfl) [] (by simp [CALL]) (by simp [CALL]) (by simp [CALL]) (by simp) (by simp [engH]) fun _ _ => ?_
    rw [engH_house]
    simp only [CALL, ↓VC, VP, TT, List.getElem?_toArray, Nat.reduceEqDiff, reduceCtorEq, Nat.reduceAdd, Nat.reduceSub, Nat.reduceLT, Nat.reduceMul, Nat.reducePow, Nat.reduceLeDiff, Int.reduceToNat, Int.reduceLE, Int.reduceLT, Int.reducePow, hB, instL_hEng0, bs0]
    refine kCall_val (h_digest2 [0] l 1 c (by simp) hc (by simp; omega)) (by rfl) [(2, 0), (3, 0), (4, 0), (6, 0), (5, 0), (0, 0)] (by simp [CALL]) (by simp [CALL, cellsAt, instL_hEng, hEng_take, tk, show List.take (bs [0]).length (splice (bs [0]) 0 (bs [0])) = bs [0] from rfl, show List.take 1 (bs [0]) = bs [0] from rfl]) (by simp [CALL]) (by simp [okL_bs, okL_hEng, okL, okV]) ?_
    simp only [CALL, ↓VC, VP, TT, List.getElem?_toArray, Nat.reduceEqDiff, reduceCtorEq, Nat.reduceAdd, Nat.reduceSub, Nat.reduceLT, Nat.reduceMul, Nat.reducePow, Nat.reduceLeDiff, Int.reduceToNat, Int.reduceLE, Int.reduceLT, Int.reducePow, houseD_len]
    refine ⟨_, _, [0], ⟨rfl, rfl⟩, ?_⟩
    unfold leafD; rw [if_pos (by omega)]; simp [-List.reduceReplicate, LES]
theorem law_FnExactLeafOf (l : List UInt8) (c : Nat) (hc : l.length ≤ c) (hmc : c ≤ maxLen) : LC Try.prog 5 [.s 0 0 l.length c] [⟨false, bs l⟩] (fun v _ => v = .c (.bool true)) := by
  have hD := leafD_len l
  refine LC_of (X := XX (fun _ => .nil) (fun _ => []) [123] 1) envOK Try.func5 (by kernel_rfl) (by kernel_rfl) rfl (Nat.le_of_ble_eq_true (by kernel_rfl)) ?_
  simp only [kFun, Try.f5, List.length_nil, List.length_cons, Nat.sub_zero, Nat.reduceSub, Nat.reduceAdd, List.nil_append, List.cons_append, List.replicate_succ, List.replicate_zero]
  simp only [XX, ↓VC, VP, TT, List.getElem?_toArray, Nat.reduceEqDiff, reduceCtorEq, Nat.reduceAdd, Nat.reduceSub, Nat.reduceLT, Nat.reduceMul, Nat.reducePow, Nat.reduceLeDiff, Int.reduceToNat, Int.reduceLE, Int.reduceLT, Int.reducePow]
  refine ⟨fun _ => ⟨_, [⟨false, bs l⟩], [0], rfl, by simp [-List.reduceReplicate, LES]⟩, fun h => ?_⟩
  have hm : l.length ≤ 1048576 := by omega
  refine kCall_Ret (c_laws_toByteS l c hc (by omega)) (by rfl) [(0, 0)] (by simp [CALL]) (by simp [CALL, cellsAt, tk]) (by simp [CALL]) (by simp [okL_bs]) (by simp) fun _ _ => ?_
  simp only [CALL, ↓VC, VP, TT, List.getElem?_toArray, Nat.reduceEqDiff, reduceCtorEq, Nat.reduceAdd, Nat.reduceSub, Nat.reduceLT, Nat.reduceMul, Nat.reducePow, Nat.reduceLeDiff, Int.reduceToNat, Int.reduceLE, Int.reduceLT, Int.reducePow]
  refine kCall_val (c_spec_LeafOf l l.length (Nat.le_refl _)) (by rfl) [(1, 0)] (by simp [CALL]) (by simp [CALL, cellsAt, tk]) (by simp [CALL]) (by simp [okL_bs]) ?_
  simp only [CALL, ↓VC, VP, TT, List.getElem?_toArray, Nat.reduceEqDiff, reduceCtorEq, Nat.reduceAdd, Nat.reduceSub, Nat.reduceLT, Nat.reduceMul, Nat.reducePow, Nat.reduceLeDiff, Int.reduceToNat, Int.reduceLE, Int.reduceLT, Int.reducePow, hD]
  refine kCall_Ret (c_laws_toByteS l c hc (by omega)) (by rfl) [(0, 0)] (by simp [CALL]) (by simp [CALL, cellsAt, tk]) (by simp [CALL]) (by simp [okL_bs]) (by simp) fun _ _ => ?_
  simp only [CALL, ↓VC, VP, TT, List.getElem?_toArray, Nat.reduceEqDiff, reduceCtorEq, Nat.reduceAdd, Nat.reduceSub, Nat.reduceLT, Nat.reduceMul, Nat.reducePow, Nat.reduceLeDiff, Int.reduceToNat, Int.reduceLE, Int.reduceLT, Int.reducePow]
  refine kCall_val (c_impl_LeafOf l l.length (Nat.le_refl _)) (by rfl) [(3, 0)] (by simp [CALL]) (by simp [CALL, cellsAt, tk]) (by simp [CALL]) (by simp [okL_bs]) ?_
  simp only [CALL, ↓VC, VP, TT, List.getElem?_toArray, Nat.reduceEqDiff, reduceCtorEq, Nat.reduceAdd, Nat.reduceSub, Nat.reduceLT, Nat.reduceMul, Nat.reducePow, Nat.reduceLeDiff, Int.reduceToNat, Int.reduceLE, Int.reduceLT, Int.reducePow, hD]
  refine kCall_val (c_laws_eqDigest (leafD l).1 (leafD l).1 hD hD) (by rfl) [] (by simp [CALL]) (by simp [CALL, cellsAt]) (by simp [CALL]) (by simp [okL_bs]) ?_
  simp only [CALL, ↓VC, VP, TT, List.getElem?_toArray, Nat.reduceEqDiff, reduceCtorEq, Nat.reduceAdd, Nat.reduceSub, Nat.reduceLT, Nat.reduceMul, Nat.reducePow, Nat.reduceLeDiff, Int.reduceToNat, Int.reduceLE, Int.reduceLT, Int.reducePow, beq_self_eq_true, Bool.not_true, bne_self_eq_false]
  refine kCall_Ret (c_laws_toByteS l c hc (by omega)) (by rfl) [(0, 0)] (by simp [CALL]) (by simp [CALL, cellsAt, tk]) (by simp [CALL]) (by simp [okL_bs]) (by simp) fun _ _ => ?_
  simp only [CALL, ↓VC, VP, TT, List.getElem?_toArray, Nat.reduceEqDiff, reduceCtorEq, Nat.reduceAdd, Nat.reduceSub, Nat.reduceLT, Nat.reduceMul, Nat.reducePow, Nat.reduceLeDiff, Int.reduceToNat, Int.reduceLE, Int.reduceLT, Int.reducePow]
  refine kCall_val (c_laws_eqByteS l l l.length l.length (by omega) (by omega) (by omega)) (by rfl) [(3, 0), (5, 0)] (by simp [CALL]) (by simp [CALL, cellsAt, tk]) (by simp [CALL]) (by simp [okL_bs]) ?_
  simp only [CALL, ↓VC, VP, TT, List.getElem?_toArray, Nat.reduceEqDiff, reduceCtorEq, Nat.reduceAdd, Nat.reduceSub, Nat.reduceLT, Nat.reduceMul, Nat.reducePow, Nat.reduceLeDiff, Int.reduceToNat, Int.reduceLE, Int.reduceLT, Int.reducePow, beq_self_eq_true, Bool.not_true]
  refine ⟨_, [⟨false, bs l⟩], [0], rfl, ?_⟩
  simp [-List.reduceReplicate, LES]
theorem law_FnExactHouseDigest (l : List UInt8) (c : Nat) (hc : l.length ≤ c) (hmc : c ≤ maxLen) : LC Try.prog 6 [.s 0 0 l.length c] [⟨false, bs l⟩] (fun v _ => v = .c (.bool true)) := by
  have hD := hdD_len l
  refine LC_of (X := XX (fun _ => .nil) (fun _ => []) [123] 1) envOK Try.func6 (by kernel_rfl) (by kernel_rfl) rfl (Nat.le_of_ble_eq_true (by kernel_rfl)) ?_
  simp only [kFun, Try.f6, List.length_nil, List.length_cons, Nat.sub_zero, Nat.reduceSub, Nat.reduceAdd, List.nil_append, List.cons_append, List.replicate_succ, List.replicate_zero]
  simp only [XX, ↓VC, VP, TT, List.getElem?_toArray, Nat.reduceEqDiff, reduceCtorEq, Nat.reduceAdd, Nat.reduceSub, Nat.reduceLT, Nat.reduceMul, Nat.reducePow, Nat.reduceLeDiff, Int.reduceToNat, Int.reduceLE, Int.reduceLT, Int.reducePow]
  refine ⟨fun _ => ⟨_, [⟨false, bs l⟩], [0], rfl, by simp [-List.reduceReplicate, LES]⟩, fun h => ?_⟩
  have hm : l.length ≤ 1048576 := by omega
  refine kCall_Ret (c_laws_toByteS l c hc (by omega)) (by rfl) [(0, 0)] (by simp [CALL]) (by simp [CALL, cellsAt, tk]) (by simp [CALL]) (by simp [okL_bs]) (by simp) fun _ _ => ?_
  simp only [CALL, ↓VC, VP, TT, List.getElem?_toArray, Nat.reduceEqDiff, reduceCtorEq, Nat.reduceAdd, Nat.reduceSub, Nat.reduceLT, Nat.reduceMul, Nat.reducePow, Nat.reduceLeDiff, Int.reduceToNat, Int.reduceLE, Int.reduceLT, Int.reducePow]
  refine kCall_val (c_spec_HouseDigest l l.length (Nat.le_refl _)) (by rfl) [(1, 0)] (by simp [CALL]) (by simp [CALL, cellsAt, tk]) (by simp [CALL]) (by simp [okL_bs]) ?_
  simp only [CALL, ↓VC, VP, TT, List.getElem?_toArray, Nat.reduceEqDiff, reduceCtorEq, Nat.reduceAdd, Nat.reduceSub, Nat.reduceLT, Nat.reduceMul, Nat.reducePow, Nat.reduceLeDiff, Int.reduceToNat, Int.reduceLE, Int.reduceLT, Int.reducePow, hD]
  refine kCall_Ret (c_laws_toByteS l c hc (by omega)) (by rfl) [(0, 0)] (by simp [CALL]) (by simp [CALL, cellsAt, tk]) (by simp [CALL]) (by simp [okL_bs]) (by simp) fun _ _ => ?_
  simp only [CALL, ↓VC, VP, TT, List.getElem?_toArray, Nat.reduceEqDiff, reduceCtorEq, Nat.reduceAdd, Nat.reduceSub, Nat.reduceLT, Nat.reduceMul, Nat.reducePow, Nat.reduceLeDiff, Int.reduceToNat, Int.reduceLE, Int.reduceLT, Int.reducePow]
  refine kCall_val (c_impl_HouseDigest l l.length (Nat.le_refl _)) (by rfl) [(3, 0)] (by simp [CALL]) (by simp [CALL, cellsAt, tk]) (by simp [CALL]) (by simp [okL_bs]) ?_
  simp only [CALL, ↓VC, VP, TT, List.getElem?_toArray, Nat.reduceEqDiff, reduceCtorEq, Nat.reduceAdd, Nat.reduceSub, Nat.reduceLT, Nat.reduceMul, Nat.reducePow, Nat.reduceLeDiff, Int.reduceToNat, Int.reduceLE, Int.reduceLT, Int.reducePow, hD]
  refine kCall_val (c_laws_eqDigest (hdD l).1 (hdD l).1 hD hD) (by rfl) [] (by simp [CALL]) (by simp [CALL, cellsAt]) (by simp [CALL]) (by simp [okL_bs]) ?_
  simp only [CALL, ↓VC, VP, TT, List.getElem?_toArray, Nat.reduceEqDiff, reduceCtorEq, Nat.reduceAdd, Nat.reduceSub, Nat.reduceLT, Nat.reduceMul, Nat.reducePow, Nat.reduceLeDiff, Int.reduceToNat, Int.reduceLE, Int.reduceLT, Int.reducePow, beq_self_eq_true, Bool.not_true, bne_self_eq_false]
  refine kCall_Ret (c_laws_toByteS l c hc (by omega)) (by rfl) [(0, 0)] (by simp [CALL]) (by simp [CALL, cellsAt, tk]) (by simp [CALL]) (by simp [okL_bs]) (by simp) fun _ _ => ?_
  simp only [CALL, ↓VC, VP, TT, List.getElem?_toArray, Nat.reduceEqDiff, reduceCtorEq, Nat.reduceAdd, Nat.reduceSub, Nat.reduceLT, Nat.reduceMul, Nat.reducePow, Nat.reduceLeDiff, Int.reduceToNat, Int.reduceLE, Int.reduceLT, Int.reducePow]
  refine kCall_val (c_laws_eqByteS l l l.length l.length (by omega) (by omega) (by omega)) (by rfl) [(3, 0), (5, 0)] (by simp [CALL]) (by simp [CALL, cellsAt, tk]) (by simp [CALL]) (by simp [okL_bs]) ?_
  simp only [CALL, ↓VC, VP, TT, List.getElem?_toArray, Nat.reduceEqDiff, reduceCtorEq, Nat.reduceAdd, Nat.reduceSub, Nat.reduceLT, Nat.reduceMul, Nat.reducePow, Nat.reduceLeDiff, Int.reduceToNat, Int.reduceLE, Int.reduceLT, Int.reducePow, beq_self_eq_true, Bool.not_true]
  refine ⟨_, [⟨false, bs l⟩], [0], rfl, ?_⟩
  simp [-List.reduceReplicate, LES]
end Go.Proofs.Ytfokmjfbmhlhdaa
