import Derived.Test.YtmhjalagcnhfiaaGreatEnv
import Derived.Test.YtmhjalagcnhfiaaGreatTk
import Derived.Test.YtmhjalagcnhfiaaGreatVcgR
/- Bytes compared as texts. -/
set_option linter.unusedSimpArgs false
set_option linter.unusedVariables false
namespace Go.Proofs.YtmhjalagcnhfiaaGreat
open Go Go.Vc
set_option maxRecDepth 10000
set_option maxHeartbeats 4000000
theorem arr_list (a : List UInt8) : (⟨a.toArray⟩ : ByteArray).toList = a := by rw [ByteArray.toList_mk]
theorem bs_inj2 {a b : List UInt8} (h : List.map (fun u : UInt8 => V.c (.int .u8 u.toNat)) a = List.map (fun u : UInt8 => V.c (.int .u8 u.toNat)) b) : a = b := bs_inj.1 h
theorem l_bytes9 (a b : List UInt8) (ca cb : Nat) (hca : a.length ≤ ca) (hcb : b.length ≤ cb) (hma : a.length ≤ 1048576) (hmb : b.length ≤ 1048576) : LC Tryz.prog 9 [.s 0 0 a.length ca, .s 1 0 b.length cb] [⟨false, bs a⟩, ⟨false, bs b⟩] (fun v hp => v = .c (.bool ((a == b))) ∧ hp = [⟨false, bs a⟩, ⟨false, bs b⟩]) := by
  refine LC_of (X := XX (fun _ => .nil) (fun _ => []) [42, 74, 94, 95, 96, 97, 111, 117, 118, 129, 130, 141] 2) envOK Tryz.func9 (by kernel_rfl) (by kernel_rfl) rfl (Nat.le_of_ble_eq_true (by kernel_rfl)) ?_
  simp only [kFun, Tryz.f9, List.length_nil, List.length_cons, Nat.sub_zero, Nat.reduceSub, Nat.reduceAdd, List.nil_append, List.cons_append, List.replicate_succ, List.replicate_zero]
  simp only [XX, ↓VC, VP, TT, List.getElem?_toArray, Nat.reduceEqDiff, reduceCtorEq, Nat.reduceAdd, Nat.reduceSub, Nat.reduceLT, Nat.reduceMul, Nat.reducePow, Nat.reduceLeDiff, Int.reduceToNat, Int.reduceLE, Int.reduceLT, Int.reducePow]
  refine ⟨a, rfl, .inr rfl, b, rfl, .inr rfl, ?_⟩
  refine ⟨_, _, [0, 1], ⟨rfl, rfl⟩, ?_⟩
  simp only [arr_list]
  simp [-List.reduceReplicate, LES]
end Go.Proofs.YtmhjalagcnhfiaaGreat
