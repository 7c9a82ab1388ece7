import Derived.Test.YtahnjhppkgndiaaGreatDraw
/- A law's first test. -/
set_option linter.unusedSimpArgs false
set_option linter.unusedVariables false
namespace Go.Proofs.YtahnjhppkgndiaaGreat
open Go Go.Vc
set_option maxRecDepth 10000
set_option maxHeartbeats 4000000
section
variable {l : List UInt8} {c : Nat} {q : Nat × Nat}
theorem d_big (hm : l.length ≤ maxLen) : LC Tryz.prog 6 [.s 0 0 l.length c] [⟨false, bs l⟩] (fun v hp => v = .c (.bool (decide (l.length > 4096))) ∧ hp = [⟨false, bs l⟩]) := by
  refine LC_of (X := XX (fun _ => .nil) (fun _ => []) [15, 71, 72, 73, 79, 80, 87, 90, 91, 93, 99, 119, 137, 176, 177, 203, 204, 212, 219] 1) envOK Tryz.func6 (by kernel_rfl) (by kernel_rfl) rfl (Nat.le_of_ble_eq_true (by kernel_rfl)) ?_
  simp only [kFun, Tryz.f6, List.length_nil, List.length_cons, Nat.sub_zero, Nat.reduceSub, Nat.reduceAdd, List.nil_append, List.cons_append, List.replicate_succ, List.replicate_zero]
  simp only [XX, ↓VC, VP, TT, Nat.reduceEqDiff, reduceCtorEq, Nat.reduceAdd, Nat.reduceSub, Nat.reduceLT, Nat.reduceMul, Nat.reducePow, Nat.reduceLeDiff, Int.reduceToNat, Int.reduceLE, Int.reduceLT, Int.reducePow]
  refine ⟨_, _, [0], ⟨rfl, rfl⟩, ?_⟩
  rw [show decide ((l.length : Int) > 4096) = decide (l.length > 4096) by rw [decide_eq_decide]; omega]
  simp [-List.reduceReplicate, LES]
end
end Go.Proofs.YtahnjhppkgndiaaGreat
