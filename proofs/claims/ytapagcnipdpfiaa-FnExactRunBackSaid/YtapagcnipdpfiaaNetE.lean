import Derived.Test.YtapagcnipdpfiaaNetB
import Derived.Test.YtapagcnipdpfiaaConcatB
/- Networks: the program's halves: parted, joined, crossed. -/
set_option linter.unusedSimpArgs false
set_option linter.unusedVariables false
namespace Go.Proofs.Ytapagcnipdpfiaa
open Go Go.Vc
set_option maxRecDepth 10000
set_option maxHeartbeats 4000000
theorem splB_8 {l : List UInt8} (h : l.length = 8) : splB (List.replicate 8 0) 0 l = l := by unfold splB; simp [h]
theorem splB_cross {a b : List UInt8} (ha : a.length = 8) (hb : b.length = 8) : splB a 4 (b.take 4) = a.take 4 ++ b.take 4 := by
  unfold splB
  rw [List.drop_of_length_le (by rw [List.length_take]; omega), List.append_nil]
theorem c_impl_halves (b : List UInt8) (hb : b.length = 16) : LC Try.prog 107 [.a (bs b)] [] (fun v hp => v = .t [.a (bs (b.take 8)), .a (bs (b.drop 8))] ∧ hp = []) := by
  have t8 := take8_len hb
  have d8 := drop8_len hb
  have e2 : List.take 8 (b.drop 8) = b.drop 8 := List.take_of_length_le (by omega)
  have e3 : List.take 8 (b.take 8) = b.take 8 := List.take_of_length_le (by omega)
  refine LC_of (X := XX (fun | 1 => .one 0 (.one 1 (.one 2 (.one 3 (.one 4 (.alt (.one 5 (.one 6 (.one 7 .nil))) (.one 6 (.one 5 (.one 7 .nil)))))))) | _ => .nil) (fun _ => []) [25, 33, 34, 61, 62, 82, 87, 112, 119, 141] 0) envOK Try.func107 (by kernel_rfl) (by kernel_rfl) rfl (Nat.le_of_ble_eq_true (by kernel_rfl)) ?_
  simp only [kFun, Try.f107, List.length_nil, List.length_cons, Nat.sub_zero, Nat.reduceSub, Nat.reduceAdd, List.nil_append, List.cons_append, List.replicate_succ, List.replicate_zero]
  simp only [XX, ↓VC, VP, TT, List.getElem?_toArray, Nat.reduceEqDiff, reduceCtorEq, Nat.reduceAdd, Nat.reduceSub, Nat.reduceLT, Nat.reduceMul, Nat.reducePow, Nat.reduceLeDiff, Int.reduceToNat, Int.reduceLE, Int.reduceLT, Int.reducePow, hb]
  simp only [e2, splB_8 t8, splB_8 d8, t8, d8, e3]
  repeat' apply And.intro
  all_goals first | omega | trivial | exact .inr trivial | skip
  all_goals refine ⟨_, _, [], ⟨rfl, rfl⟩, ?_⟩
            simp [-List.reduceReplicate, LES] <;> rfl
theorem c_impl_joined (a b : List UInt8) (ha : a.length = 8) (hb : b.length = 8) : LC Try.prog 108 [.a (bs a), .a (bs b)] [] (fun v hp => v = .a (bs (a ++ b)) ∧ hp = []) := by
  refine LC_of (X := XX (fun | 1 => .one 0 (.one 1 (.one 2 (.one 3 (.one 4 (.one 5 (.one 6 .nil)))))) | _ => .nil) (fun _ => []) [25, 33, 34, 61, 62, 82, 87, 112, 119, 141] 0) envOK Try.func108 (by kernel_rfl) (by kernel_rfl) rfl (Nat.le_of_ble_eq_true (by kernel_rfl)) ?_
  simp only [kFun, Try.f108, List.length_nil, List.length_cons, Nat.sub_zero, Nat.reduceSub, Nat.reduceAdd, List.nil_append, List.cons_append, List.replicate_succ, List.replicate_zero]
  simp only [XX, ↓VC, VP, TT, List.getElem?_toArray, Nat.reduceEqDiff, reduceCtorEq, Nat.reduceAdd, Nat.reduceSub, Nat.reduceLT, Nat.reduceMul, Nat.reducePow, Nat.reduceLeDiff, Int.reduceToNat, Int.reduceLE, Int.reduceLT, Int.reducePow, ha, hb]
  have ta : List.take 8 (bs a) = bs a := List.take_of_length_le (by rw [bs_length]; omega)
  have tb : List.take 8 (bs b) = bs b := List.take_of_length_le (by rw [bs_length]; omega)
  refine kCall_Ret (c_Concat2 a b 8 8 (by omega) (by omega) (by omega)) (by rfl) [(3, 0), (0, 0), (1, 0)] (by simp [CALL, cellsAt, tk, take_room, bs_length, bs_nil, ha, hb, ta, tb]) (by simp [CALL, cellsAt, tk, take_room, bs_length, bs_nil, ha, hb, ta, tb]) (by simp [CALL, cellsAt, tk, take_room, bs_length, bs_nil, ha, hb, ta, tb]) (by simp [okL_bs, okL_room, okL, okV, ha, hb, ta, tb]) (by simp [CALL, cellsAt, tk, take_room, bs_length, bs_nil, ha, hb, ta, tb]) fun r _ => ?_
  simp (config := { maxSteps := 2000000 }) only [CALL, ↓VC, VP, TT, List.getElem?_toArray, Nat.reduceEqDiff, reduceCtorEq, Nat.reduceAdd, Nat.reduceSub, Nat.reduceLT, Nat.reduceMul, Nat.reducePow, Nat.reduceLeDiff, Int.reduceToNat, Int.reduceLE, Int.reduceLT, Int.reducePow, instL_room, Bool.not_true, Bool.not_false, ha, hb]
  refine ⟨by omega, ?_⟩
  refine ⟨_, _, [], ⟨rfl, rfl⟩, ?_⟩
  simp [-List.reduceReplicate, LES] <;> rfl
end Go.Proofs.Ytapagcnipdpfiaa
