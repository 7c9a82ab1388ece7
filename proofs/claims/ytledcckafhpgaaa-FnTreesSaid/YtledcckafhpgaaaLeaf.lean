import Derived.Test.YtledcckafhpgaaaNodeOf
import Derived.Test.YtledcckafhpgaaaTk
/- Leaves and digests of the house: the program and the reference hand back the same. -/
set_option linter.unusedSimpArgs false
set_option linter.unusedVariables false
namespace Go.Proofs.Ytledcckafhpgaaa
open Go Go.Vc
set_option maxRecDepth 10000
set_option maxHeartbeats 4000000
def leafD (l : List UInt8) : List UInt8 × Int := if l.length ≤ 1999 then (houseD ([0] ++ l), 0) else (List.replicate 32 0, 2)
def hdD (l : List UInt8) : List UInt8 × Int := if l.length ≤ 2000 then (houseD l, 0) else (List.replicate 32 0, 2)
theorem leafD_len (l : List UInt8) : (leafD l).1.length = 32 := by unfold leafD; split; exact houseD_len _; simp
theorem hdD_len (l : List UInt8) : (hdD l).1.length = 32 := by unfold hdD; split; exact houseD_len _; simp
theorem c_impl_HouseDigest (l : List UInt8) (c : Nat) (hc : l.length ≤ c) : LC Try.prog 18 [.s 0 0 l.length c] [⟨false, bs l⟩] (fun v hp => v = .t [.a (bs (hdD l).1), .c (.int .i64 ((hdD l).2))] ∧ hp = [⟨false, bs l⟩]) := by
  refine LC_of (X := XX (fun _ => .nil) (fun _ => []) [22, 24, 25, 36, 42, 47, 90] 1) envOK Try.func18 (by kernel_rfl) (by kernel_rfl) rfl (Nat.le_of_ble_eq_true (by kernel_rfl)) ?_
  simp only [kFun, Try.f18, List.length_nil, List.length_cons, Nat.sub_zero, Nat.reduceSub, Nat.reduceAdd, List.nil_append, List.cons_append, List.replicate_succ, List.replicate_zero]
  simp only [XX, ↓VC, VP, TT, List.getElem?_toArray, Nat.reduceEqDiff, reduceCtorEq, Nat.reduceAdd, Nat.reduceSub, Nat.reduceLT, Nat.reduceMul, Nat.reducePow, Nat.reduceLeDiff, Int.reduceToNat, Int.reduceLE, Int.reduceLT, Int.reducePow]
  refine kCall_val (c_impl_isData l c) (by rfl) [(0, 0)] (by simp [CALL]) (by simp [CALL, cellsAt]) (by simp [CALL]) (by simp [okL_bs]) ?_
  simp only [CALL, ↓VC, VP, TT, List.getElem?_toArray, Nat.reduceEqDiff, reduceCtorEq, Nat.reduceAdd, Nat.reduceSub, Nat.reduceLT, Nat.reduceMul, Nat.reducePow, Nat.reduceLeDiff, Int.reduceToNat, Int.reduceLE, Int.reduceLT, Int.reducePow]
  refine ⟨fun h => ?_, fun h => ?_⟩
  · simp only [Bool.not_eq_true', decide_eq_false_iff_not] at h
    refine ⟨_, _, [0], ⟨rfl, rfl⟩, ?_⟩
    unfold hdD; rw [if_neg h]; simp [-List.reduceReplicate, LES]
  · simp only [Bool.not_eq_false', decide_eq_true_eq] at h
    refine kCall_Ret c_house (by rfl) [] (by simp [CALL]) (by simp [CALL]) (by simp [CALL]) (by simp) (by simp [engH]) fun _ _ => ?_
    rw [engH_house]
    simp only [CALL, ↓VC, VP, TT, List.getElem?_toArray, Nat.reduceEqDiff, reduceCtorEq, Nat.reduceAdd, Nat.reduceSub, Nat.reduceLT, Nat.reduceMul, Nat.reducePow, Nat.reduceLeDiff, Int.reduceToNat, Int.reduceLE, Int.reduceLT, Int.reducePow, hB, instL_hEng0, repl1]
    refine kCall_val (h_digest1 l c hc (by omega)) (by rfl) [(2, 0), (3, 0), (4, 0), (5, 0), (0, 0)] (by simp [CALL]) (by simp [CALL, cellsAt, instL_hEng, hEng_take, tk]) (by simp [CALL]) (by simp [okL_bs, okL_hEng, okL, okV]) ?_
    simp only [CALL, ↓VC, VP, TT, List.getElem?_toArray, Nat.reduceEqDiff, reduceCtorEq, Nat.reduceAdd, Nat.reduceSub, Nat.reduceLT, Nat.reduceMul, Nat.reducePow, Nat.reduceLeDiff, Int.reduceToNat, Int.reduceLE, Int.reduceLT, Int.reducePow, houseD_len]
    refine ⟨_, _, [0], ⟨rfl, rfl⟩, ?_⟩
    unfold hdD; rw [if_pos h]; simp [-List.reduceReplicate, LES]
theorem c_spec_LeafOf (l : List UInt8) (c : Nat) (hc : l.length ≤ c) : LC Try.prog 17 [.s 0 0 l.length c] [⟨false, bs l⟩] (fun v hp => v = .t [.a (bs (leafD l).1), .c (.int .i64 ((leafD l).2))] ∧ hp = [⟨false, bs l⟩]) := by
  refine LC_of (X := XX (fun _ => .nil) (fun _ => []) [22, 24, 25, 36, 42, 47, 90] 1) envOK Try.func17 (by kernel_rfl) (by kernel_rfl) rfl (Nat.le_of_ble_eq_true (by kernel_rfl)) ?_
  simp only [kFun, Try.f17, List.length_nil, List.length_cons, Nat.sub_zero, Nat.reduceSub, Nat.reduceAdd, List.nil_append, List.cons_append, List.replicate_succ, List.replicate_zero]
  simp only [XX, ↓VC, VP, TT, List.getElem?_toArray, Nat.reduceEqDiff, reduceCtorEq, Nat.reduceAdd, Nat.reduceSub, Nat.reduceLT, Nat.reduceMul, Nat.reducePow, Nat.reduceLeDiff, Int.reduceToNat, Int.reduceLE, Int.reduceLT, Int.reducePow, bs0]
  refine ⟨fun h => ?_, fun h => ?_⟩
  · refine ⟨_, _, [0], ⟨rfl, rfl⟩, ?_⟩
    unfold leafD; rw [if_neg (by omega)]; simp [-List.reduceReplicate, LES]
  · repeat (refine ⟨by first | omega | (simp; done) | decide, ?_⟩)
    refine fun r1 c1 h1 h1' => ?_
    have hL : ([0] ++ l).length = 1 + l.length := by simp; omega
    have htk : List.take (bs (0 :: l)).length (List.take 1 (splice (bs [0]) 0 (bs [0])) ++ (bs l ++ List.replicate r1 V.j)) = bs (0 :: l) := by
      rw [show List.take 1 (splice (bs [0]) 0 (bs [0])) = bs [0] from rfl, ← List.append_assoc, bs_append]
      exact take_room (by rw [bs_length]; rfl)
    refine kCall_val (c_spec_l08Digest ([0] ++ l) c1 (by omega) (by omega)) (by rfl) [(3, 0)] (by simp [CALL, hL]; omega) (by simp [CALL, cellsAt, htk]) (by simp [CALL]) (by simp [okL_bs]) ?_
    simp only [CALL, ↓VC, VP, TT, List.getElem?_toArray, Nat.reduceEqDiff, reduceCtorEq, Nat.reduceAdd, Nat.reduceSub, Nat.reduceLT, Nat.reduceMul, Nat.reducePow, Nat.reduceLeDiff, Int.reduceToNat, Int.reduceLE, Int.reduceLT, Int.reducePow, houseD_len]
    refine ⟨_, _, [0], ⟨rfl, rfl⟩, ?_⟩
    unfold leafD; rw [if_pos (by omega)]; simp [-List.reduceReplicate, LES]
theorem c_impl_LeafOf (l : List UInt8) (c : Nat) (hc : l.length ≤ c) : LC Try.prog 16 [.s 0 0 l.length c] [⟨false, bs l⟩] (fun v hp => v = .t [.a (bs (leafD l).1), .c (.int .i64 ((leafD l).2))] ∧ hp = [⟨false, bs l⟩]) := by
  refine LC_of (X := XX (fun _ => .nil) (fun _ => []) [22, 24, 25, 36, 42, 47, 90] 1) envOK Try.func16 (by kernel_rfl) (by kernel_rfl) rfl (Nat.le_of_ble_eq_true (by kernel_rfl)) ?_
  simp only [kFun, Try.f16, List.length_nil, List.length_cons, Nat.sub_zero, Nat.reduceSub, Nat.reduceAdd, List.nil_append, List.cons_append, List.replicate_succ, List.replicate_zero]
  simp only [XX, ↓VC, VP, TT, List.getElem?_toArray, Nat.reduceEqDiff, reduceCtorEq, Nat.reduceAdd, Nat.reduceSub, Nat.reduceLT, Nat.reduceMul, Nat.reducePow, Nat.reduceLeDiff, Int.reduceToNat, Int.reduceLE, Int.reduceLT, Int.reducePow, bs0]
  refine ⟨fun h => ?_, fun h => ?_⟩
  · refine ⟨_, _, [0], ⟨rfl, rfl⟩, ?_⟩
    unfold leafD; rw [if_neg (by omega)]; simp [-List.reduceReplicate, LES]
  · refine kCall_Ret c_house (by rfl) [] (by simp [CALL]) (by simp [CALL]) (by simp [CALL]) (by simp) (by simp [engH]) fun _ _ => ?_
    rw [engH_house]
    simp only [CALL, ↓VC, VP, TT, List.getElem?_toArray, Nat.reduceEqDiff, reduceCtorEq, Nat.reduceAdd, Nat.reduceSub, Nat.reduceLT, Nat.reduceMul, Nat.reducePow, Nat.reduceLeDiff, Int.reduceToNat, Int.reduceLE, Int.reduceLT, Int.reducePow, hB, instL_hEng0, bs0]
    refine kCall_val (h_digest2 [0] l 1 c (by simp) hc (by simp; omega)) (by rfl) [(2, 0), (3, 0), (4, 0), (6, 0), (5, 0), (0, 0)] (by simp [CALL]) (by simp [CALL, cellsAt, instL_hEng, hEng_take, tk, show List.take (bs [0]).length (splice (bs [0]) 0 (bs [0])) = bs [0] from rfl, show List.take 1 (bs [0]) = bs [0] from rfl]) (by simp [CALL]) (by simp [okL_bs, okL_hEng, okL, okV]) ?_
    simp only [CALL, ↓VC, VP, TT, List.getElem?_toArray, Nat.reduceEqDiff, reduceCtorEq, Nat.reduceAdd, Nat.reduceSub, Nat.reduceLT, Nat.reduceMul, Nat.reducePow, Nat.reduceLeDiff, Int.reduceToNat, Int.reduceLE, Int.reduceLT, Int.reducePow, houseD_len]
    refine ⟨_, _, [0], ⟨rfl, rfl⟩, ?_⟩
    unfold leafD; rw [if_pos (by omega)]; simp [-List.reduceReplicate, LES]
end Go.Proofs.Ytledcckafhpgaaa
