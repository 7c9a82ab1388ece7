import Derived.Test.YtapagcnipdpfiaaNetF
import Derived.Test.YtapagcnipdpfiaaNetC
import Derived.Test.YtapagcnipdpfiaaHalfS
/- RunNetwork: the program and the reference. -/
set_option linter.unusedSimpArgs false
set_option linter.unusedVariables false
namespace Go.Proofs.Ytapagcnipdpfiaa
open Go Go.Vc
set_option maxRecDepth 10000
set_option maxHeartbeats 4000000
def Net.run (c : Net) (D b : List UInt8) : Nat → List UInt8
  | 0 => b
  | i + 1 => c.rnd (hfA D i) (c.run D b i)
theorem run_len {c : Net} {D b : List UInt8} (hb : b.length = 16) : ∀ i, (c.run D b i).length = 16
  | 0 => hb
  | i + 1 => rnd_len _ _ (run_len hb i)
/-- What stands against a run. -/
def codeN (z : Int) (box A : List UInt8) (k n : Int) (q : Nat) : Int := if netB z box A k n = true then (if (q : Int) = n then 0 else 2) else 1
theorem c_spec_l06Code (z k n : Int) (box A : List UInt8) (hbx : box.length = 256) (hA : A.length = 16) (q c : Nat) (D : List UInt8) (hD : D.length = 8 * q) (hc : q ≤ c) (hm : q ≤ 1048576) : LC Try.prog 50 [.a (netC z box A k n), .s 0 0 q c] [⟨false, bs D⟩] (fun v hp => v = .c (.int .i64 (codeN z box A k n q)) ∧ hp = [⟨false, bs D⟩]) := by
  have hx : List.take (8 * q) (bs D) = bs D := List.take_of_length_le (by rw [bs_length]; omega)
  have hb := hD
  refine LC_of (X := XX (fun _ => .nil) (fun _ => []) [25, 33, 34, 61, 62, 82, 87, 112, 119, 141] 1) envOK Try.func50 (by kernel_rfl) (by kernel_rfl) rfl (Nat.le_of_ble_eq_true (by kernel_rfl)) ?_
  simp only [kFun, Try.f50, List.length_nil, List.length_cons, Nat.sub_zero, Nat.reduceSub, Nat.reduceAdd, List.nil_append, List.cons_append, List.replicate_succ, List.replicate_zero]
  simp only [XX, ↓VC, VP, TT, List.getElem?_toArray, Nat.reduceEqDiff, reduceCtorEq, Nat.reduceAdd, Nat.reduceSub, Nat.reduceLT, Nat.reduceMul, Nat.reducePow, Nat.reduceLeDiff, Int.reduceToNat, Int.reduceLE, Int.reduceLT, Int.reducePow, netC_len hbx hA, ↓net_all hbx hA]
  cases hB : netB z box A k n with
  | false =>
    refine kCall_val (c_spec_l06Is z k n box A hbx hA) (by rfl) [] (by simp [CALL, cellsAt, tk, take_room, bs_length, bs_nil, n_inst, n_ok, ne_inst, ne_take, ne_ok, Net.bl, instL_net, okL_net, hD, hb, hx]) (by simp [CALL, cellsAt, tk, take_room, bs_length, bs_nil, n_inst, n_ok, ne_inst, ne_take, ne_ok, Net.bl, instL_net, okL_net, hD, hb, hx]) (by simp [CALL, cellsAt, tk, take_room, bs_length, bs_nil, n_inst, n_ok, ne_inst, ne_take, ne_ok, Net.bl, instL_net, okL_net, hD, hb, hx]) (by simp [okL_bs, okL_room, okL, okV, n_inst, n_ok, ne_inst, ne_take, ne_ok, Net.bl, instL_net, okL_net, hD, hb, hx]) ?_
    simp (config := { maxSteps := 2000000 }) only [CALL, ↓VC, VP, TT, List.getElem?_toArray, Nat.reduceEqDiff, reduceCtorEq, Nat.reduceAdd, Nat.reduceSub, Nat.reduceLT, Nat.reduceMul, Nat.reducePow, Nat.reduceLeDiff, Int.reduceToNat, Int.reduceLE, Int.reduceLT, Int.reducePow, instL_room, Bool.not_true, Bool.not_false, n_inst, n_len, ↓n_all, ↓n_rd, ne_len, ne_inst0, Net.bl, instL_net, hB]
    refine ⟨_, _, [0], ⟨rfl, rfl⟩, ?_⟩
    simp [-List.reduceReplicate, LES, codeN, hB] <;> rfl
  | true =>
    refine kCall_val (c_spec_l06Is z k n box A hbx hA) (by rfl) [] (by simp [CALL, cellsAt, tk, take_room, bs_length, bs_nil, n_inst, n_ok, ne_inst, ne_take, ne_ok, Net.bl, instL_net, okL_net, hD, hb, hx]) (by simp [CALL, cellsAt, tk, take_room, bs_length, bs_nil, n_inst, n_ok, ne_inst, ne_take, ne_ok, Net.bl, instL_net, okL_net, hD, hb, hx]) (by simp [CALL, cellsAt, tk, take_room, bs_length, bs_nil, n_inst, n_ok, ne_inst, ne_take, ne_ok, Net.bl, instL_net, okL_net, hD, hb, hx]) (by simp [okL_bs, okL_room, okL, okV, n_inst, n_ok, ne_inst, ne_take, ne_ok, Net.bl, instL_net, okL_net, hD, hb, hx]) ?_
    simp (config := { maxSteps := 2000000 }) only [CALL, ↓VC, VP, TT, List.getElem?_toArray, Nat.reduceEqDiff, reduceCtorEq, Nat.reduceAdd, Nat.reduceSub, Nat.reduceLT, Nat.reduceMul, Nat.reducePow, Nat.reduceLeDiff, Int.reduceToNat, Int.reduceLE, Int.reduceLT, Int.reducePow, instL_room, Bool.not_true, Bool.not_false, n_inst, n_len, ↓n_all, ↓n_rd, ne_len, ne_inst0, Net.bl, instL_net, hB, ↓net_rd hbx hA]
    refine ⟨fun h1 => ?_, fun h1 => ?_⟩
    · have h2 : ¬ (q : Int) = n := by simpa using h1
      refine ⟨_, _, [0], ⟨rfl, rfl⟩, ?_⟩
      simp [-List.reduceReplicate, LES, codeN, hB, h2] <;> rfl
    · have h2 : (q : Int) = n := by simpa using h1
      refine ⟨_, _, [0], ⟨rfl, rfl⟩, ?_⟩
      simp [-List.reduceReplicate, LES, codeN, hB, h2] <;> rfl
theorem c_length_half (q c : Nat) (D : List UInt8) : LC Try.prog 102 [.s 0 0 q c] [⟨false, bs D⟩] (fun v hp => v = .c (.int .i64 (q)) ∧ hp = [⟨false, bs D⟩]) := by
  refine LC_of (X := XX (fun _ => .nil) (fun _ => []) [25, 33, 34, 61, 62, 82, 87, 112, 119, 141] 1) envOK Try.func102 (by kernel_rfl) (by kernel_rfl) rfl (Nat.le_of_ble_eq_true (by kernel_rfl)) ?_
  simp only [kFun, Try.f102, List.length_nil, List.length_cons, Nat.sub_zero, Nat.reduceSub, Nat.reduceAdd, List.nil_append, List.cons_append, List.replicate_succ, List.replicate_zero]
  simp only [XX, ↓VC, VP, TT, List.getElem?_toArray, Nat.reduceEqDiff, reduceCtorEq, Nat.reduceAdd, Nat.reduceSub, Nat.reduceLT, Nat.reduceMul, Nat.reducePow, Nat.reduceLeDiff, Int.reduceToNat, Int.reduceLE, Int.reduceLT, Int.reducePow]
  refine ⟨_, _, [0], ⟨rfl, rfl⟩, ?_⟩
  simp [-List.reduceReplicate, LES] <;> rfl
theorem c_impl_checkKeys (z k n : Int) (box A : List UInt8) (hbx : box.length = 256) (hA : A.length = 16) (q c : Nat) (D : List UInt8) (hD : D.length = 8 * q) (hc : q ≤ c) (hm : q ≤ 1048576) : LC Try.prog 55 [.a (netC z box A k n), .s 0 0 q c] [⟨false, bs D⟩] (fun v hp => v = .c (.int .i64 (codeN z box A k n q)) ∧ hp = [⟨false, bs D⟩]) := by
  have hx : List.take (8 * q) (bs D) = bs D := List.take_of_length_le (by rw [bs_length]; omega)
  have hb := hD
  refine LC_of (X := XX (fun | 3 => .one 0 (.one 2 (.one 3 (.one 1 (.one 4 (.one 5 .nil))))) | _ => .nil) (fun _ => []) [25, 33, 34, 61, 62, 82, 87, 112, 119, 141] 1) envOK Try.func55 (by kernel_rfl) (by kernel_rfl) rfl (Nat.le_of_ble_eq_true (by kernel_rfl)) ?_
  simp only [kFun, Try.f55, List.length_nil, List.length_cons, Nat.sub_zero, Nat.reduceSub, Nat.reduceAdd, List.nil_append, List.cons_append, List.replicate_succ, List.replicate_zero]
  simp only [XX, ↓VC, VP, TT, List.getElem?_toArray, Nat.reduceEqDiff, reduceCtorEq, Nat.reduceAdd, Nat.reduceSub, Nat.reduceLT, Nat.reduceMul, Nat.reducePow, Nat.reduceLeDiff, Int.reduceToNat, Int.reduceLE, Int.reduceLT, Int.reducePow, netC_len hbx hA, ↓net_all hbx hA]
  cases hB : netB z box A k n with
  | false =>
    refine kCall_val (c_impl_IsNetwork z k n box A hbx hA) (by rfl) [] (by simp [CALL, cellsAt, tk, take_room, bs_length, bs_nil, n_inst, n_ok, ne_inst, ne_take, ne_ok, Net.bl, instL_net, okL_net, hD, hb, hx]) (by simp [CALL, cellsAt, tk, take_room, bs_length, bs_nil, n_inst, n_ok, ne_inst, ne_take, ne_ok, Net.bl, instL_net, okL_net, hD, hb, hx]) (by simp [CALL, cellsAt, tk, take_room, bs_length, bs_nil, n_inst, n_ok, ne_inst, ne_take, ne_ok, Net.bl, instL_net, okL_net, hD, hb, hx]) (by simp [okL_bs, okL_room, okL, okV, n_inst, n_ok, ne_inst, ne_take, ne_ok, Net.bl, instL_net, okL_net, hD, hb, hx]) ?_
    simp (config := { maxSteps := 2000000 }) only [CALL, ↓VC, VP, TT, List.getElem?_toArray, Nat.reduceEqDiff, reduceCtorEq, Nat.reduceAdd, Nat.reduceSub, Nat.reduceLT, Nat.reduceMul, Nat.reducePow, Nat.reduceLeDiff, Int.reduceToNat, Int.reduceLE, Int.reduceLT, Int.reducePow, instL_room, Bool.not_true, Bool.not_false, n_inst, n_len, ↓n_all, ↓n_rd, ne_len, ne_inst0, Net.bl, instL_net, hB]
    refine ⟨_, _, [0], ⟨rfl, rfl⟩, ?_⟩
    simp [-List.reduceReplicate, LES, codeN, hB] <;> rfl
  | true =>
    refine kCall_val (c_impl_IsNetwork z k n box A hbx hA) (by rfl) [] (by simp [CALL, cellsAt, tk, take_room, bs_length, bs_nil, n_inst, n_ok, ne_inst, ne_take, ne_ok, Net.bl, instL_net, okL_net, hD, hb, hx]) (by simp [CALL, cellsAt, tk, take_room, bs_length, bs_nil, n_inst, n_ok, ne_inst, ne_take, ne_ok, Net.bl, instL_net, okL_net, hD, hb, hx]) (by simp [CALL, cellsAt, tk, take_room, bs_length, bs_nil, n_inst, n_ok, ne_inst, ne_take, ne_ok, Net.bl, instL_net, okL_net, hD, hb, hx]) (by simp [okL_bs, okL_room, okL, okV, n_inst, n_ok, ne_inst, ne_take, ne_ok, Net.bl, instL_net, okL_net, hD, hb, hx]) ?_
    simp (config := { maxSteps := 2000000 }) only [CALL, ↓VC, VP, TT, List.getElem?_toArray, Nat.reduceEqDiff, reduceCtorEq, Nat.reduceAdd, Nat.reduceSub, Nat.reduceLT, Nat.reduceMul, Nat.reducePow, Nat.reduceLeDiff, Int.reduceToNat, Int.reduceLE, Int.reduceLT, Int.reducePow, instL_room, Bool.not_true, Bool.not_false, n_inst, n_len, ↓n_all, ↓n_rd, ne_len, ne_inst0, Net.bl, instL_net, hB, ↓net_rd hbx hA]
    refine kCall_val (c_length_half q c D) (by rfl) [(0, 0)] (by simp [CALL, cellsAt, tk, take_room, bs_length, bs_nil, n_inst, n_ok, ne_inst, ne_take, ne_ok, Net.bl, instL_net, okL_net, hD, hb, hx]) (by simp [CALL, cellsAt, tk, take_room, bs_length, bs_nil, n_inst, n_ok, ne_inst, ne_take, ne_ok, Net.bl, instL_net, okL_net, hD, hb, hx]) (by simp [CALL, cellsAt, tk, take_room, bs_length, bs_nil, n_inst, n_ok, ne_inst, ne_take, ne_ok, Net.bl, instL_net, okL_net, hD, hb, hx]) (by simp [okL_bs, okL_room, okL, okV, n_inst, n_ok, ne_inst, ne_take, ne_ok, Net.bl, instL_net, okL_net, hD, hb, hx]) ?_
    simp (config := { maxSteps := 2000000 }) only [CALL, ↓VC, VP, TT, List.getElem?_toArray, Nat.reduceEqDiff, reduceCtorEq, Nat.reduceAdd, Nat.reduceSub, Nat.reduceLT, Nat.reduceMul, Nat.reducePow, Nat.reduceLeDiff, Int.reduceToNat, Int.reduceLE, Int.reduceLT, Int.reducePow, instL_room, Bool.not_true, Bool.not_false, n_inst, n_len, ↓n_all, ↓n_rd, ne_len, ne_inst0, Net.bl, instL_net, ↓net_rd hbx hA]
    refine ⟨fun h1 => ?_, fun h1 => ?_⟩
    · have h2 : ¬ (q : Int) = n := by simpa using h1
      refine ⟨_, _, [0], ⟨rfl, rfl⟩, ?_⟩
      simp [-List.reduceReplicate, LES, codeN, hB, h2] <;> rfl
    · have h2 : (q : Int) = n := by simpa using h1
      refine ⟨_, _, [0], ⟨rfl, rfl⟩, ?_⟩
      simp [-List.reduceReplicate, LES, codeN, hB, h2] <;> rfl
end Go.Proofs.Ytapagcnipdpfiaa
