import Derived.Test.YtahnjhppkgndiaaGreatEnv
import Derived.Test.YtahnjhppkgndiaaGreatTk
import Derived.Test.YtahnjhppkgndiaaGreatVcgQ
import Derived.Test.YtahnjhppkgndiaaGreatDraw
/- Bytes compared as texts. -/
set_option linter.unusedSimpArgs false
set_option linter.unusedVariables false
namespace Go.Proofs.YtahnjhppkgndiaaGreat
open Go Go.Vc
set_option maxRecDepth 10000
set_option maxHeartbeats 4000000
theorem arr_list (a : List UInt8) : (⟨a.toArray⟩ : ByteArray).toList = a := by rw [ByteArray.toList_mk]
theorem bs_inj2 {a b : List UInt8} (h : List.map (fun u : UInt8 => V.c (.int .u8 u.toNat)) a = List.map (fun u : UInt8 => V.c (.int .u8 u.toNat)) b) : a = b := bs_inj.1 h
theorem l_bytes9 (a b : List UInt8) (ca cb : Nat) (hca : a.length ≤ ca) (hcb : b.length ≤ cb) (hma : a.length ≤ 1048576) (hmb : b.length ≤ 1048576) : LC Tryz.prog 56 [.s 0 0 a.length ca, .s 1 0 b.length cb] [⟨false, bs a⟩, ⟨false, bs b⟩] (fun v hp => v = .c (.bool ((a == b))) ∧ hp = [⟨false, bs a⟩, ⟨false, bs b⟩]) := by
  refine LC_of (X := XX (fun _ => .nil) (fun _ => []) [15, 71, 72, 73, 79, 80, 87, 90, 91, 93, 99, 119, 137, 176, 177, 203, 204, 212, 219] 2) envOK Tryz.func56 (by kernel_rfl) (by kernel_rfl) rfl (Nat.le_of_ble_eq_true (by kernel_rfl)) ?_
  simp only [kFun, Tryz.f56, List.length_nil, List.length_cons, Nat.sub_zero, Nat.reduceSub, Nat.reduceAdd, List.nil_append, List.cons_append, List.replicate_succ, List.replicate_zero]
  simp only [XX, ↓VC, VP, TT, Nat.reduceEqDiff, reduceCtorEq, Nat.reduceAdd, Nat.reduceSub, Nat.reduceLT, Nat.reduceMul, Nat.reducePow, Nat.reduceLeDiff, Int.reduceToNat, Int.reduceLE, Int.reduceLT, Int.reducePow]
  refine ⟨a, rfl, .inr rfl, b, rfl, .inr rfl, ?_⟩
  refine ⟨_, _, [0, 1], ⟨rfl, rfl⟩, ?_⟩
  simp only [arr_list]
  simp [-List.reduceReplicate, LES]
end Go.Proofs.YtahnjhppkgndiaaGreat
/- A law's first test. -/
set_option linter.unusedSimpArgs false
set_option linter.unusedVariables false
namespace Go.Proofs.YtahnjhppkgndiaaGreat
open Go Go.Vc
set_option maxRecDepth 10000
set_option maxHeartbeats 4000000
section
variable {l : List UInt8} {c : Nat} {q : Nat × Nat}
theorem d_big (hm : l.length ≤ maxLen) : LC Tryz.prog 6 [.s 0 0 l.length c] [⟨false, bs l⟩] (fun v hp => v = .c (.bool (decide (l.length > 4096))) ∧ hp = [⟨false, bs l⟩]) := by
  refine LC_of (X := XX (fun _ => .nil) (fun _ => []) [15, 71, 72, 73, 79, 80, 87, 90, 91, 93, 99, 119, 137, 176, 177, 203, 204, 212, 219] 1) envOK Tryz.func6 (by kernel_rfl) (by kernel_rfl) rfl (Nat.le_of_ble_eq_true (by kernel_rfl)) ?_
  simp only [kFun, Tryz.f6, List.length_nil, List.length_cons, Nat.sub_zero, Nat.reduceSub, Nat.reduceAdd, List.nil_append, List.cons_append, List.replicate_succ, List.replicate_zero]
  simp only [XX, ↓VC, VP, TT, Nat.reduceEqDiff, reduceCtorEq, Nat.reduceAdd, Nat.reduceSub, Nat.reduceLT, Nat.reduceMul, Nat.reducePow, Nat.reduceLeDiff, Int.reduceToNat, Int.reduceLE, Int.reduceLT, Int.reducePow]
  refine ⟨_, _, [0], ⟨rfl, rfl⟩, ?_⟩
  rw [show decide ((l.length : Int) > 4096) = decide (l.length > 4096) by rw [decide_eq_decide]; omega]
  simp [-List.reduceReplicate, LES]
end
end Go.Proofs.YtahnjhppkgndiaaGreat
