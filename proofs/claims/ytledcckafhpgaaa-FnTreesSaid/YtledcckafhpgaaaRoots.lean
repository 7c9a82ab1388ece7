import Derived.Test.YtledcckafhpgaaaDigS
/- Roots of lists: the program and the reference hand back the same. -/
set_option linter.unusedSimpArgs false
set_option linter.unusedVariables false
namespace Go.Proofs.Ytledcckafhpgaaa
open Go Go.Vc
set_option maxRecDepth 10000
set_option maxHeartbeats 4000000
def rootD (n : Nat) (D : List UInt8) : List UInt8 × Int := if n ≤ 64 then (rootL n D, 0) else (List.replicate 32 0, 2)
theorem rootD_len {n : Nat} {D : List UInt8} (h : D.length = 32 * n) : (rootD n D).1.length = 32 := by unfold rootD; split; exact rootL_len h; simp
theorem c_spec_RootOf (n c : Nat) (D : List UInt8) (hD : D.length = 32 * n) (hc : n ≤ c) : LC Try.prog 11 [.s 0 0 n c] [⟨false, bs D⟩] (fun v hp => v = .t [.a (bs (rootD n D).1), .c (.int .i64 ((rootD n D).2))] ∧ hp = [⟨false, bs D⟩]) := by
  have key := c_spec_l09Root n
  refine LC_of (X := XX (fun _ => .nil) (fun _ => []) [22, 24, 25, 36, 42, 47, 90] 1) envOK Try.func11 (by kernel_rfl) (by kernel_rfl) rfl (Nat.le_of_ble_eq_true (by kernel_rfl)) ?_
  simp only [kFun, Try.f11, List.length_nil, List.length_cons, Nat.sub_zero, Nat.reduceSub, Nat.reduceAdd, List.nil_append, List.cons_append, List.replicate_succ, List.replicate_zero]
  simp only [XX, ↓VC, VP, TT, List.getElem?_toArray, Nat.reduceEqDiff, reduceCtorEq, Nat.reduceAdd, Nat.reduceSub, Nat.reduceLT, Nat.reduceMul, Nat.reducePow, Nat.reduceLeDiff, Int.reduceToNat, Int.reduceLE, Int.reduceLT, Int.reducePow]
  refine ⟨fun h => ?_, fun h => ?_⟩
  · refine ⟨_, _, [0], ⟨rfl, rfl⟩, ?_⟩
    unfold rootD; rw [if_neg (by omega)]; simp [-List.reduceReplicate, LES]
  · refine kCall_val (key D c hD hc (by omega)) (by rfl) [(0, 0)] (by simp [CALL]) (by simp [CALL, cellsAt, tkn hD, Nat.mul_comm]) (by simp [CALL]) (by simp [okL_bs]) ?_
    simp only [CALL, ↓VC, VP, TT, List.getElem?_toArray, Nat.reduceEqDiff, reduceCtorEq, Nat.reduceAdd, Nat.reduceSub, Nat.reduceLT, Nat.reduceMul, Nat.reducePow, Nat.reduceLeDiff, Int.reduceToNat, Int.reduceLE, Int.reduceLT, Int.reducePow, rootL_len hD]
    refine ⟨_, _, [0], ⟨rfl, rfl⟩, ?_⟩
    unfold rootD; rw [if_pos (by omega)]; simp [-List.reduceReplicate, LES]
theorem c_impl_RootOf (n c : Nat) (D : List UInt8) (hD : D.length = 32 * n) (hc : n ≤ c) : LC Try.prog 10 [.s 0 0 n c] [⟨false, bs D⟩] (fun v hp => v = .t [.a (bs (rootD n D).1), .c (.int .i64 ((rootD n D).2))] ∧ hp = [⟨false, bs D⟩]) := by
  have key := c_hasher_root n
  refine LC_of (X := XX (fun _ => .nil) (fun _ => []) [22, 24, 25, 36, 42, 47, 90] 1) envOK Try.func10 (by kernel_rfl) (by kernel_rfl) rfl (Nat.le_of_ble_eq_true (by kernel_rfl)) ?_
  simp only [kFun, Try.f10, List.length_nil, List.length_cons, Nat.sub_zero, Nat.reduceSub, Nat.reduceAdd, List.nil_append, List.cons_append, List.replicate_succ, List.replicate_zero]
  simp only [XX, ↓VC, VP, TT, List.getElem?_toArray, Nat.reduceEqDiff, reduceCtorEq, Nat.reduceAdd, Nat.reduceSub, Nat.reduceLT, Nat.reduceMul, Nat.reducePow, Nat.reduceLeDiff, Int.reduceToNat, Int.reduceLE, Int.reduceLT, Int.reducePow]
  refine ⟨fun h => ?_, fun h => ?_⟩
  · refine ⟨_, _, [0], ⟨rfl, rfl⟩, ?_⟩
    unfold rootD; rw [if_neg (by omega)]; simp [-List.reduceReplicate, LES]
  · refine kCall_Ret c_newHasher (by rfl) [] (by simp [CALL]) (by simp [CALL]) (by simp [CALL]) (by simp) (by simp [hB]) fun _ _ => ?_
    simp only [CALL, ↓VC, VP, TT, List.getElem?_toArray, Nat.reduceEqDiff, reduceCtorEq, Nat.reduceAdd, Nat.reduceSub, Nat.reduceLT, Nat.reduceMul, Nat.reducePow, Nat.reduceLeDiff, Int.reduceToNat, Int.reduceLE, Int.reduceLT, Int.reducePow, hB, instL_hEng0]
    refine kCall_val (key D c hD hc (by omega)) (by rfl) [(2, 0), (3, 0), (4, 0), (0, 0)] (by simp [CALL]) (by simp [CALL, hB, cellsAt, tkn hD, Nat.mul_comm, instL_hEng, hEng_take, tk]) (by simp [CALL, hB]) (by simp [hB, okL_bs, okL_hEng]) ?_
    simp only [CALL, ↓VC, VP, TT, List.getElem?_toArray, Nat.reduceEqDiff, reduceCtorEq, Nat.reduceAdd, Nat.reduceSub, Nat.reduceLT, Nat.reduceMul, Nat.reducePow, Nat.reduceLeDiff, Int.reduceToNat, Int.reduceLE, Int.reduceLT, Int.reducePow, rootL_len hD]
    refine ⟨_, _, [0], ⟨rfl, rfl⟩, ?_⟩
    unfold rootD; rw [if_pos (by omega)]; simp [-List.reduceReplicate, LES]
end Go.Proofs.Ytledcckafhpgaaa
