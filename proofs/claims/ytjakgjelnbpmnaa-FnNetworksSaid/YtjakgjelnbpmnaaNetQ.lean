import Derived.Test.YtjakgjelnbpmnaaNetF
import Derived.Test.YtjakgjelnbpmnaaNetC
import Derived.Test.YtjakgjelnbpmnaaNetB
import Derived.Test.YtjakgjelnbpmnaaNetI
import Derived.Test.YtjakgjelnbpmnaaListsM
import Derived.Test.YtjakgjelnbpmnaaCipA
/- RunNetwork: the program and the reference. -/
set_option linter.unusedSimpArgs false
set_option linter.unusedVariables false
namespace Go.Proofs.Ytjakgjelnbpmnaa
open Go Go.Vc
set_option maxRecDepth 10000
set_option maxHeartbeats 4000000
def Net.run (c : Net) (D b : List UInt8) : Nat → List UInt8
  | 0 => b
  | i + 1 => c.rnd (hfA D i) (c.run D b i)
theorem run_len {c : Net} {D b : List UInt8} (hb : b.length = 16) : ∀ i, (c.run D b i).length = 16
  | 0 => hb
  | i + 1 => rnd_len _ _ (run_len hb i)
/-- What stands against a run. -/
def codeN (z : Int) (box A : List UInt8) (k n : Int) (q : Nat) : Int := if netB z box A k n = true then (if (q : Int) = n then 0 else 2) else 1
theorem c_spec_l06Code (z k n : Int) (box A : List UInt8) (hbx : box.length = 256) (hA : A.length = 16) (q c : Nat) (D : List UInt8) (hD : D.length = 8 * q) (hc : q ≤ c) (hm : q ≤ 1048576) : LC Try.prog 33 [.a (netC z box A k n), .s 0 0 q c] [⟨false, bs D⟩] (fun v hp => v = .c (.int .i64 (codeN z box A k n q)) ∧ hp = [⟨false, bs D⟩]) := by
  have hx : List.take (8 * q) (bs D) = bs D := List.take_of_length_le (by rw [bs_length]; omega)
  have hb := hD
  refine LC_of (X := XX (fun _ => .nil) (fun _ => []) [27, 28, 29, 44, 47, 52, 53, 54, 55, 74, 78, 88, 89, 99] 1) envOK Try.func33 (by kernel_rfl) (by kernel_rfl) rfl (Nat.le_of_ble_eq_true (by kernel_rfl)) ?_
  simp only [kFun, Try.f33, List.length_nil, List.length_cons, Nat.sub_zero, Nat.reduceSub, Nat.reduceAdd, List.nil_append, List.cons_append, List.replicate_succ, List.replicate_zero]
  simp only [XX, ↓VC, VP, TT, Nat.reduceEqDiff, reduceCtorEq, Nat.reduceAdd, Nat.reduceSub, Nat.reduceLT, Nat.reduceMul, Nat.reducePow, Nat.reduceLeDiff, Int.reduceToNat, Int.reduceLE, Int.reduceLT, Int.reducePow, netC_len hbx hA, ↓net_all hbx hA]
  cases hB : netB z box A k n with
  | false =>
    refine kCall_val (c_spec_l06Is z k n box A hbx hA) (by rfl) [] (by simp [CALL, SCB, n_inst, n_ok, ne_inst, ne_take, ne_ok, Net.bl, instL_net, okL_net, hD, hb, hx]) (by simp [CALL, SCB, n_inst, n_ok, ne_inst, ne_take, ne_ok, Net.bl, instL_net, okL_net, hD, hb, hx]) (by simp [CALL, SCB, n_inst, n_ok, ne_inst, ne_take, ne_ok, Net.bl, instL_net, okL_net, hD, hb, hx]) (by simp [okL_bs, okL_room, okL, okV, n_inst, n_ok, ne_inst, ne_take, ne_ok, Net.bl, instL_net, okL_net, hD, hb, hx]) ?_
    simp (config := { maxSteps := 2000000 }) only [CALL, ↓VC, VP, TT, Nat.reduceEqDiff, reduceCtorEq, Nat.reduceAdd, Nat.reduceSub, Nat.reduceLT, Nat.reduceMul, Nat.reducePow, Nat.reduceLeDiff, Int.reduceToNat, Int.reduceLE, Int.reduceLT, Int.reducePow, GOB, n_inst, n_len, ↓n_all, ↓n_rd, ne_len, ne_inst0, Net.bl, instL_net, hB]
    refine ⟨_, _, [0], ⟨rfl, rfl⟩, ?_⟩
    simp [-List.reduceReplicate, LES, codeN, hB] <;> rfl
  | true =>
    refine kCall_val (c_spec_l06Is z k n box A hbx hA) (by rfl) [] (by simp [CALL, SCB, n_inst, n_ok, ne_inst, ne_take, ne_ok, Net.bl, instL_net, okL_net, hD, hb, hx]) (by simp [CALL, SCB, n_inst, n_ok, ne_inst, ne_take, ne_ok, Net.bl, instL_net, okL_net, hD, hb, hx]) (by simp [CALL, SCB, n_inst, n_ok, ne_inst, ne_take, ne_ok, Net.bl, instL_net, okL_net, hD, hb, hx]) (by simp [okL_bs, okL_room, okL, okV, n_inst, n_ok, ne_inst, ne_take, ne_ok, Net.bl, instL_net, okL_net, hD, hb, hx]) ?_
    simp (config := { maxSteps := 2000000 }) only [CALL, ↓VC, VP, TT, Nat.reduceEqDiff, reduceCtorEq, Nat.reduceAdd, Nat.reduceSub, Nat.reduceLT, Nat.reduceMul, Nat.reducePow, Nat.reduceLeDiff, Int.reduceToNat, Int.reduceLE, Int.reduceLT, Int.reducePow, GOB, n_inst, n_len, ↓n_all, ↓n_rd, ne_len, ne_inst0, Net.bl, instL_net, hB, ↓net_rd hbx hA]
    refine ⟨fun h1 => ?_, fun h1 => ?_⟩
    · have h2 : ¬ (q : Int) = n := by simpa using h1
      refine ⟨_, _, [0], ⟨rfl, rfl⟩, ?_⟩
      simp [-List.reduceReplicate, LES, codeN, hB, h2] <;> rfl
    · have h2 : (q : Int) = n := by simpa using h1
      refine ⟨_, _, [0], ⟨rfl, rfl⟩, ?_⟩
      simp [-List.reduceReplicate, LES, codeN, hB, h2] <;> rfl
theorem c_length_half (q c : Nat) (D : List UInt8) : LC Try.prog 56 [.s 0 0 q c] [⟨false, bs D⟩] (fun v hp => v = .c (.int .i64 (q)) ∧ hp = [⟨false, bs D⟩]) := by
  refine LC_of (X := XX (fun _ => .nil) (fun _ => []) [27, 28, 29, 44, 47, 52, 53, 54, 55, 74, 78, 88, 89, 99] 1) envOK Try.func56 (by kernel_rfl) (by kernel_rfl) rfl (Nat.le_of_ble_eq_true (by kernel_rfl)) ?_
  simp only [kFun, Try.f56, List.length_nil, List.length_cons, Nat.sub_zero, Nat.reduceSub, Nat.reduceAdd, List.nil_append, List.cons_append, List.replicate_succ, List.replicate_zero]
  simp only [XX, ↓VC, VP, TT, Nat.reduceEqDiff, reduceCtorEq, Nat.reduceAdd, Nat.reduceSub, Nat.reduceLT, Nat.reduceMul, Nat.reducePow, Nat.reduceLeDiff, Int.reduceToNat, Int.reduceLE, Int.reduceLT, Int.reducePow]
  refine ⟨_, _, [0], ⟨rfl, rfl⟩, ?_⟩
  simp [-List.reduceReplicate, LES] <;> rfl
theorem c_impl_checkKeys (z k n : Int) (box A : List UInt8) (hbx : box.length = 256) (hA : A.length = 16) (q c : Nat) (D : List UInt8) (hD : D.length = 8 * q) (hc : q ≤ c) (hm : q ≤ 1048576) : LC Try.prog 30 [.a (netC z box A k n), .s 0 0 q c] [⟨false, bs D⟩] (fun v hp => v = .c (.int .i64 (codeN z box A k n q)) ∧ hp = [⟨false, bs D⟩]) := by
  have hx : List.take (8 * q) (bs D) = bs D := List.take_of_length_le (by rw [bs_length]; omega)
  have hb := hD
  refine LC_of (X := XX (fun | 3 => .one 0 (.one 2 (.one 3 (.one 1 (.one 4 (.one 5 .nil))))) | _ => .nil) (fun _ => []) [27, 28, 29, 44, 47, 52, 53, 54, 55, 74, 78, 88, 89, 99] 1) envOK Try.func30 (by kernel_rfl) (by kernel_rfl) rfl (Nat.le_of_ble_eq_true (by kernel_rfl)) ?_
  simp only [kFun, Try.f30, List.length_nil, List.length_cons, Nat.sub_zero, Nat.reduceSub, Nat.reduceAdd, List.nil_append, List.cons_append, List.replicate_succ, List.replicate_zero]
  simp only [XX, ↓VC, VP, TT, Nat.reduceEqDiff, reduceCtorEq, Nat.reduceAdd, Nat.reduceSub, Nat.reduceLT, Nat.reduceMul, Nat.reducePow, Nat.reduceLeDiff, Int.reduceToNat, Int.reduceLE, Int.reduceLT, Int.reducePow, netC_len hbx hA, ↓net_all hbx hA]
  cases hB : netB z box A k n with
  | false =>
    refine kCall_val (c_impl_IsNetwork z k n box A hbx hA) (by rfl) [] (by simp [CALL, SCB, n_inst, n_ok, ne_inst, ne_take, ne_ok, Net.bl, instL_net, okL_net, hD, hb, hx]) (by simp [CALL, SCB, n_inst, n_ok, ne_inst, ne_take, ne_ok, Net.bl, instL_net, okL_net, hD, hb, hx]) (by simp [CALL, SCB, n_inst, n_ok, ne_inst, ne_take, ne_ok, Net.bl, instL_net, okL_net, hD, hb, hx]) (by simp [okL_bs, okL_room, okL, okV, n_inst, n_ok, ne_inst, ne_take, ne_ok, Net.bl, instL_net, okL_net, hD, hb, hx]) ?_
    simp (config := { maxSteps := 2000000 }) only [CALL, ↓VC, VP, TT, Nat.reduceEqDiff, reduceCtorEq, Nat.reduceAdd, Nat.reduceSub, Nat.reduceLT, Nat.reduceMul, Nat.reducePow, Nat.reduceLeDiff, Int.reduceToNat, Int.reduceLE, Int.reduceLT, Int.reducePow, GOB, n_inst, n_len, ↓n_all, ↓n_rd, ne_len, ne_inst0, Net.bl, instL_net, hB]
    refine ⟨_, _, [0], ⟨rfl, rfl⟩, ?_⟩
    simp [-List.reduceReplicate, LES, codeN, hB] <;> rfl
  | true =>
    refine kCall_val (c_impl_IsNetwork z k n box A hbx hA) (by rfl) [] (by simp [CALL, SCB, n_inst, n_ok, ne_inst, ne_take, ne_ok, Net.bl, instL_net, okL_net, hD, hb, hx]) (by simp [CALL, SCB, n_inst, n_ok, ne_inst, ne_take, ne_ok, Net.bl, instL_net, okL_net, hD, hb, hx]) (by simp [CALL, SCB, n_inst, n_ok, ne_inst, ne_take, ne_ok, Net.bl, instL_net, okL_net, hD, hb, hx]) (by simp [okL_bs, okL_room, okL, okV, n_inst, n_ok, ne_inst, ne_take, ne_ok, Net.bl, instL_net, okL_net, hD, hb, hx]) ?_
    simp (config := { maxSteps := 2000000 }) only [CALL, ↓VC, VP, TT, Nat.reduceEqDiff, reduceCtorEq, Nat.reduceAdd, Nat.reduceSub, Nat.reduceLT, Nat.reduceMul, Nat.reducePow, Nat.reduceLeDiff, Int.reduceToNat, Int.reduceLE, Int.reduceLT, Int.reducePow, GOB, n_inst, n_len, ↓n_all, ↓n_rd, ne_len, ne_inst0, Net.bl, instL_net, hB, ↓net_rd hbx hA]
    refine kCall_val (c_length_half q c D) (by rfl) [(0, 0)] (by simp [CALL, SCB, n_inst, n_ok, ne_inst, ne_take, ne_ok, Net.bl, instL_net, okL_net, hD, hb, hx]) (by simp [CALL, SCB, n_inst, n_ok, ne_inst, ne_take, ne_ok, Net.bl, instL_net, okL_net, hD, hb, hx]) (by simp [CALL, SCB, n_inst, n_ok, ne_inst, ne_take, ne_ok, Net.bl, instL_net, okL_net, hD, hb, hx]) (by simp [okL_bs, okL_room, okL, okV, n_inst, n_ok, ne_inst, ne_take, ne_ok, Net.bl, instL_net, okL_net, hD, hb, hx]) ?_
    simp (config := { maxSteps := 2000000 }) only [CALL, ↓VC, VP, TT, Nat.reduceEqDiff, reduceCtorEq, Nat.reduceAdd, Nat.reduceSub, Nat.reduceLT, Nat.reduceMul, Nat.reducePow, Nat.reduceLeDiff, Int.reduceToNat, Int.reduceLE, Int.reduceLT, Int.reducePow, GOB, n_inst, n_len, ↓n_all, ↓n_rd, ne_len, ne_inst0, Net.bl, instL_net, ↓net_rd hbx hA]
    refine ⟨fun h1 => ?_, fun h1 => ?_⟩
    · have h2 : ¬ (q : Int) = n := by simpa using h1
      refine ⟨_, _, [0], ⟨rfl, rfl⟩, ?_⟩
      simp [-List.reduceReplicate, LES, codeN, hB, h2] <;> rfl
    · have h2 : (q : Int) = n := by simpa using h1
      refine ⟨_, _, [0], ⟨rfl, rfl⟩, ?_⟩
      simp [-List.reduceReplicate, LES, codeN, hB, h2] <;> rfl
theorem k_spec_run (c : Net) (q cp : Nat) (D b : List UInt8) (hD : D.length = 8 * q) (hc : q ≤ cp) (hm : q ≤ 1048576) (hb : b.length = 16) (hq : q = c.n) : LC Try.prog 7 [.a c.cells, .s 0 0 q cp, .a (bs b)] [⟨false, bs D⟩] (fun v hp => v = .t [.a (bs (c.run D b q)), .c (.int .i64 (0))] ∧ hp = [⟨false, bs D⟩]) := by
  have key1 := c_spec_l06Code c.m c.k c.n c.box c.A c.hb c.hA q cp D hD hc hm
  rw [show codeN c.m c.box c.A c.k c.n q = 0 by unfold codeN; rw [if_pos c.is, if_pos (by omega)], show netC c.m c.box c.A c.k c.n = c.cells from rfl] at key1
  have hx : List.take (8 * q) (bs D) = bs D := List.take_of_length_le (by rw [bs_length]; omega)
  have hrl := fun i => run_len (c := c) (D := D) hb i
  refine LC_of (X := XX (fun | 7 => .one 0 (.one 1 (.one 2 (.one 3 (.one 4 (.one 5 (.one 6 (.one 7 .nil))))))) | _ => .nil) (fun _ => []) [27, 28, 29, 44, 47, 52, 53, 54, 55, 74, 78, 88, 89, 99] 1) envOK Try.func7 (by kernel_rfl) (by kernel_rfl) rfl (Nat.le_of_ble_eq_true (by kernel_rfl)) ?_
  simp only [kFun, Try.f7, List.length_nil, List.length_cons, Nat.sub_zero, Nat.reduceSub, Nat.reduceAdd, List.nil_append, List.cons_append, List.replicate_succ, List.replicate_zero]
  simp only [XX, ↓VC, VP, TT, Nat.reduceEqDiff, reduceCtorEq, Nat.reduceAdd, Nat.reduceSub, Nat.reduceLT, Nat.reduceMul, Nat.reducePow, Nat.reduceLeDiff, Int.reduceToNat, Int.reduceLE, Int.reduceLT, Int.reducePow, n_len, ↓n_all, hb]
  refine kCall_val (key1) (by rfl) [(0, 0)] (by simp [CALL, SCB, n_inst, n_ok, ne_inst, ne_take, ne_ok, Net.bl, instL_net, okL_net, hD, hb, hx]) (by simp [CALL, SCB, n_inst, n_ok, ne_inst, ne_take, ne_ok, Net.bl, instL_net, okL_net, hD, hb, hx]) (by simp [CALL, SCB, n_inst, n_ok, ne_inst, ne_take, ne_ok, Net.bl, instL_net, okL_net, hD, hb, hx]) (by simp [okL_bs, okL_room, okL, okV, n_inst, n_ok, ne_inst, ne_take, ne_ok, Net.bl, instL_net, okL_net, hD, hb, hx]) ?_
  simp (config := { maxSteps := 2000000 }) only [CALL, ↓VC, VP, TT, Nat.reduceEqDiff, reduceCtorEq, Nat.reduceAdd, Nat.reduceSub, Nat.reduceLT, Nat.reduceMul, Nat.reducePow, Nat.reduceLeDiff, Int.reduceToNat, Int.reduceLE, Int.reduceLT, Int.reducePow, GOB, n_inst, n_len, ↓n_all, ↓n_rd, ne_len, ne_inst0, Net.bl, instL_net, bne_self_eq_false, hb]
  refine kLoop_of (fun i : Nat => ([.j, .s 0 0 q cp, .j, .p 1 0, .j, .p 2 0, .p 3 0, .j, .j, .c (.int .i64 (i)), .j, .j, .j, .j, .j, .j, .j, .j, .j, .j, .j, .j, .j, .j, .j, .j, .j, .j, .j, .j, .j], [⟨false, bs D⟩, ⟨true, c.cells⟩, ⟨true, bs (c.run D b i)⟩, ⟨true, bs (List.replicate 16 0)⟩])) (fun i => q - i) (fun i => i ≤ q) 0 (by omega)
    ⟨[0, 1, 2, 3], by simp [-List.reduceReplicate, LES, n_ren, n_ok, Net.run]⟩ ?_
  intro i hi
  rcases Nat.lt_or_ge i q with h | h
  · simp only [↓VC, VP, TT, Nat.reduceEqDiff, reduceCtorEq, Nat.reduceAdd, Nat.reduceSub, Nat.reduceLT, Nat.reduceMul, Nat.reducePow, Nat.reduceLeDiff, Int.reduceToNat, Int.reduceLE, Int.reduceLT, Int.reducePow, h, (eq_true (by omega) : ((i : Int) < q) = True), (eq_true (by omega) : ((i : Int) < ((q : Nat) : Int)) = True), wrap_i64 (n := (i : Int) + 1) (by omega) (by omega), decide_true, n_len, ↓n_all, hrl, hfA_eq]
    refine ⟨by omega, ?_⟩
    refine kCall_val (k_spec_rnd c (hfA D i) (c.run D b i) (hfA_len hD h) (hrl i)) (by rfl) [] (by simp [CALL, SCB, n_inst, n_ok, ne_inst, ne_take, ne_ok, Net.bl, instL_net, okL_net, hD, hb, hx]) (by simp [CALL, SCB, n_inst, n_ok, ne_inst, ne_take, ne_ok, Net.bl, instL_net, okL_net, hD, hb, hx]) (by simp [CALL, SCB, n_inst, n_ok, ne_inst, ne_take, ne_ok, Net.bl, instL_net, okL_net, hD, hb, hx]) (by simp [okL_bs, okL_room, okL, okV, n_inst, n_ok, ne_inst, ne_take, ne_ok, Net.bl, instL_net, okL_net, hD, hb, hx]) ?_
    simp (config := { maxSteps := 2000000 }) only [CALL, ↓VC, VP, TT, Nat.reduceEqDiff, reduceCtorEq, Nat.reduceAdd, Nat.reduceSub, Nat.reduceLT, Nat.reduceMul, Nat.reducePow, Nat.reduceLeDiff, Int.reduceToNat, Int.reduceLE, Int.reduceLT, Int.reducePow, GOB, n_inst, n_len, ↓n_all, ↓n_rd, ne_len, ne_inst0, Net.bl, instL_net, rnd_len _ _ (hrl i), hrl]
    refine ⟨i + 1, by omega, by omega, [0, 1, 2, 3], ?_⟩
    rw [wrap_i64 (by omega) (by omega)]
    simp [-List.reduceReplicate, LES, n_ren, n_ok, Net.run]
  · obtain rfl : i = q := by omega
    simp only [↓VC, VP, TT, Nat.reduceEqDiff, reduceCtorEq, Nat.reduceAdd, Nat.reduceSub, Nat.reduceLT, Nat.reduceMul, Nat.reducePow, Nat.reduceLeDiff, Int.reduceToNat, Int.reduceLE, Int.reduceLT, Int.reducePow, (eq_false (by omega) : ((i : Int) < (i : Int)) = False), decide_false, hrl]
    refine ⟨_, _, [0], ⟨rfl, rfl⟩, ?_⟩
    simp [-List.reduceReplicate, LES] <;> rfl
theorem k_impl_run (c : Net) (q cp : Nat) (D b : List UInt8) (hD : D.length = 8 * q) (hc : q ≤ cp) (hm : q ≤ 1048576) (hb : b.length = 16) (hq : q = c.n) : LC Try.prog 6 [.a c.cells, .s 0 0 q cp, .a (bs b)] [⟨false, bs D⟩] (fun v hp => v = .t [.a (bs (c.run D b q)), .c (.int .i64 (0))] ∧ hp = [⟨false, bs D⟩]) := by
  have key1 := c_impl_checkKeys c.m c.k c.n c.box c.A c.hb c.hA q cp D hD hc hm
  rw [show codeN c.m c.box c.A c.k c.n q = 0 by unfold codeN; rw [if_pos c.is, if_pos (by omega)], show netC c.m c.box c.A c.k c.n = c.cells from rfl] at key1
  have hx : List.take (8 * q) (bs D) = bs D := List.take_of_length_le (by rw [bs_length]; omega)
  have hrl := fun i => run_len (c := c) (D := D) hb i
  refine LC_of (X := XX (fun _ => .nil) (fun _ => []) [27, 28, 29, 44, 47, 52, 53, 54, 55, 74, 78, 88, 89, 99] 1) envOK Try.func6 (by kernel_rfl) (by kernel_rfl) rfl (Nat.le_of_ble_eq_true (by kernel_rfl)) ?_
  simp only [kFun, Try.f6, List.length_nil, List.length_cons, Nat.sub_zero, Nat.reduceSub, Nat.reduceAdd, List.nil_append, List.cons_append, List.replicate_succ, List.replicate_zero]
  simp only [XX, ↓VC, VP, TT, Nat.reduceEqDiff, reduceCtorEq, Nat.reduceAdd, Nat.reduceSub, Nat.reduceLT, Nat.reduceMul, Nat.reducePow, Nat.reduceLeDiff, Int.reduceToNat, Int.reduceLE, Int.reduceLT, Int.reducePow, n_len, ↓n_all, hb]
  refine kCall_val (key1) (by rfl) [(0, 0)] (by simp [CALL, SCB, n_inst, n_ok, ne_inst, ne_take, ne_ok, Net.bl, instL_net, okL_net, hD, hb, hx]) (by simp [CALL, SCB, n_inst, n_ok, ne_inst, ne_take, ne_ok, Net.bl, instL_net, okL_net, hD, hb, hx]) (by simp [CALL, SCB, n_inst, n_ok, ne_inst, ne_take, ne_ok, Net.bl, instL_net, okL_net, hD, hb, hx]) (by simp [okL_bs, okL_room, okL, okV, n_inst, n_ok, ne_inst, ne_take, ne_ok, Net.bl, instL_net, okL_net, hD, hb, hx]) ?_
  simp (config := { maxSteps := 2000000 }) only [CALL, ↓VC, VP, TT, Nat.reduceEqDiff, reduceCtorEq, Nat.reduceAdd, Nat.reduceSub, Nat.reduceLT, Nat.reduceMul, Nat.reducePow, Nat.reduceLeDiff, Int.reduceToNat, Int.reduceLE, Int.reduceLT, Int.reducePow, GOB, n_inst, n_len, ↓n_all, ↓n_rd, ne_len, ne_inst0, Net.bl, instL_net, bne_self_eq_false, hb]
  refine kCall_Ret (k_newNet c) (by rfl) [] (by simp [CALL, SCB, n_inst, n_ok, ne_inst, ne_take, ne_ok, Net.bl, instL_net, okL_net, hD, hb, hx]) (by simp [CALL, SCB, n_inst, n_ok, ne_inst, ne_take, ne_ok, Net.bl, instL_net, okL_net, hD, hb, hx]) (by simp [CALL, SCB, n_inst, n_ok, ne_inst, ne_take, ne_ok, Net.bl, instL_net, okL_net, hD, hb, hx]) (by simp [okL_bs, okL_room, okL, okV, n_inst, n_ok, ne_inst, ne_take, ne_ok, Net.bl, instL_net, okL_net, hD, hb, hx]) (by simp [CALL, SCB, n_inst, n_ok, ne_inst, ne_take, ne_ok, Net.bl, instL_net, okL_net, hD, hb, hx]) fun _ _ => ?_
  simp (config := { maxSteps := 2000000 }) only [CALL, ↓VC, VP, TT, Nat.reduceEqDiff, reduceCtorEq, Nat.reduceAdd, Nat.reduceSub, Nat.reduceLT, Nat.reduceMul, Nat.reducePow, Nat.reduceLeDiff, Int.reduceToNat, Int.reduceLE, Int.reduceLT, Int.reducePow, GOB, n_inst, n_len, ↓n_all, ↓n_rd, ne_len, ne_inst0, Net.bl, instL_net, hb]
  refine kLoop_of (fun i : Nat => ([.j, .j, .j, .j, .j, .p 1 0, .p 2 0, .j, .j, .p 3 0, .j, .j, .j, .j, .j, .j, .j, .j, .j, .j, .j, .s 0 0 q cp, .c (.int .i64 (q)), .c (.int .i64 (i)), .j, .j, .j, .j, .j, .j, .j, .j, .j], [⟨false, bs D⟩, ⟨true, bs (c.run D b i)⟩, ⟨true, bs (List.replicate 16 0)⟩, ⟨true, c.eng 4 5⟩, ⟨true, bs c.t1⟩, ⟨true, bs c.t2⟩])) (fun i => q - i) (fun i => i ≤ q) 0 (by omega)
    ⟨[0, 2, 3, 4, 5, 6], by simp [-List.reduceReplicate, LES, ne_ren, ne_ok, Net.run]⟩ ?_
  intro i hi
  rcases Nat.lt_or_ge i q with h | h
  · have hh := hfA_len hD h
    simp only [↓VC, VP, TT, Nat.reduceEqDiff, reduceCtorEq, Nat.reduceAdd, Nat.reduceSub, Nat.reduceLT, Nat.reduceMul, Nat.reducePow, Nat.reduceLeDiff, Int.reduceToNat, Int.reduceLE, Int.reduceLT, Int.reducePow, h, (eq_true (by omega) : ((i : Int) < q) = True), (eq_true (by omega) : ((i : Int) < ((q : Nat) : Int)) = True), wrap_i64 (n := (i : Int) + 1) (by omega) (by omega), decide_true, hrl, hfA_eq, hh]
    refine ⟨by omega, ?_⟩
    refine kCall_val (k_impl_rnd c (hfA D i) (c.run D b i) hh (hrl i)) (by rfl) [(3, 0), (4, 0), (5, 0)] (by simp [CALL, SCB, n_inst, n_ok, ne_inst, ne_take, ne_ok, Net.bl, instL_net, okL_net, hD, hb, hx]) (by simp [CALL, SCB, n_inst, n_ok, ne_inst, ne_take, ne_ok, Net.bl, instL_net, okL_net, hD, hb, hx]) (by simp [CALL, SCB, n_inst, n_ok, ne_inst, ne_take, ne_ok, Net.bl, instL_net, okL_net, hD, hb, hx]) (by simp [okL_bs, okL_room, okL, okV, n_inst, n_ok, ne_inst, ne_take, ne_ok, Net.bl, instL_net, okL_net, hD, hb, hx]) ?_
    simp (config := { maxSteps := 2000000 }) only [CALL, ↓VC, VP, TT, Nat.reduceEqDiff, reduceCtorEq, Nat.reduceAdd, Nat.reduceSub, Nat.reduceLT, Nat.reduceMul, Nat.reducePow, Nat.reduceLeDiff, Int.reduceToNat, Int.reduceLE, Int.reduceLT, Int.reducePow, GOB, n_inst, n_len, ↓n_all, ↓n_rd, ne_len, ne_inst0, Net.bl, instL_net, rnd_len _ _ (hrl i), hrl]
    refine ⟨i + 1, by omega, by omega, [0, 1, 2, 3, 4, 5], ?_⟩
    rw [wrap_i64 (by omega) (by omega)]
    simp [-List.reduceReplicate, LES, ne_ren, ne_ok, Net.run]
  · obtain rfl : i = q := by omega
    simp only [↓VC, VP, TT, Nat.reduceEqDiff, reduceCtorEq, Nat.reduceAdd, Nat.reduceSub, Nat.reduceLT, Nat.reduceMul, Nat.reducePow, Nat.reduceLeDiff, Int.reduceToNat, Int.reduceLE, Int.reduceLT, Int.reducePow, (eq_false (by omega) : ((i : Int) < (i : Int)) = False), decide_false, hrl]
    refine ⟨_, _, [0], ⟨rfl, rfl⟩, ?_⟩
    simp [-List.reduceReplicate, LES] <;> rfl
end Go.Proofs.Ytjakgjelnbpmnaa
/- RunBack: the reference. -/
set_option linter.unusedSimpArgs false
set_option linter.unusedVariables false
namespace Go.Proofs.Ytjakgjelnbpmnaa
open Go Go.Vc
set_option maxRecDepth 10000
set_option maxHeartbeats 4000000
/-- The last rounds taken back. -/
def Net.bak (c : Net) (D b : List UInt8) (q : Nat) : Nat → List UInt8
  | 0 => b
  | j + 1 => c.rbk (hfA D (q - 1 - j)) (c.bak D b q j)
theorem bak_len {c : Net} {D b : List UInt8} {q : Nat} (hb : b.length = 16) : ∀ i, (c.bak D b q i).length = 16
  | 0 => hb
  | i + 1 => rbk_len _ _ (bak_len hb i)
theorem k_spec_back (c : Net) (q cp : Nat) (D b : List UInt8) (hD : D.length = 8 * q) (hc : q ≤ cp) (hm : q ≤ 1048576) (hb : b.length = 16) (hq : q = c.n) : LC Try.prog 9 [.a c.cells, .s 0 0 q cp, .a (bs b)] [⟨false, bs D⟩] (fun v hp => v = .t [.a (bs (c.bak D b q q)), .c (.int .i64 (0))] ∧ hp = [⟨false, bs D⟩]) := by
  have key1 := c_spec_l06Code c.m c.k c.n c.box c.A c.hb c.hA q cp D hD hc hm
  rw [show codeN c.m c.box c.A c.k c.n q = 0 by unfold codeN; rw [if_pos c.is, if_pos (by omega)], show netC c.m c.box c.A c.k c.n = c.cells from rfl] at key1
  have hx : List.take (8 * q) (bs D) = bs D := List.take_of_length_le (by rw [bs_length]; omega)
  have hrl := fun i => bak_len (c := c) (D := D) (q := q) hb i
  have hq1 := c.hn1
  have w0 : IntKind.i64.wrap ((q : Int) - 1) = ((q : Int) - 1) := wrap_i64 (by omega) (by omega)
  refine LC_of (X := XX (fun | 7 => .one 0 (.one 1 (.one 2 (.one 3 (.one 4 (.one 5 (.one 6 (.one 7 .nil))))))) | _ => .nil) (fun _ => []) [27, 28, 29, 44, 47, 52, 53, 54, 55, 74, 78, 88, 89, 99] 1) envOK Try.func9 (by kernel_rfl) (by kernel_rfl) rfl (Nat.le_of_ble_eq_true (by kernel_rfl)) ?_
  simp only [kFun, Try.f9, List.length_nil, List.length_cons, Nat.sub_zero, Nat.reduceSub, Nat.reduceAdd, List.nil_append, List.cons_append, List.replicate_succ, List.replicate_zero]
  simp only [XX, ↓VC, VP, TT, Nat.reduceEqDiff, reduceCtorEq, Nat.reduceAdd, Nat.reduceSub, Nat.reduceLT, Nat.reduceMul, Nat.reducePow, Nat.reduceLeDiff, Int.reduceToNat, Int.reduceLE, Int.reduceLT, Int.reducePow, n_len, ↓n_all, hb]
  refine kCall_val (key1) (by rfl) [(0, 0)] (by simp [CALL, SCB, n_inst, n_ok, ne_inst, ne_take, ne_ok, Net.bl, instL_net, okL_net, hD, hb, hx]) (by simp [CALL, SCB, n_inst, n_ok, ne_inst, ne_take, ne_ok, Net.bl, instL_net, okL_net, hD, hb, hx]) (by simp [CALL, SCB, n_inst, n_ok, ne_inst, ne_take, ne_ok, Net.bl, instL_net, okL_net, hD, hb, hx]) (by simp [okL_bs, okL_room, okL, okV, n_inst, n_ok, ne_inst, ne_take, ne_ok, Net.bl, instL_net, okL_net, hD, hb, hx]) ?_
  simp (config := { maxSteps := 2000000 }) only [CALL, ↓VC, VP, TT, Nat.reduceEqDiff, reduceCtorEq, Nat.reduceAdd, Nat.reduceSub, Nat.reduceLT, Nat.reduceMul, Nat.reducePow, Nat.reduceLeDiff, Int.reduceToNat, Int.reduceLE, Int.reduceLT, Int.reducePow, GOB, n_inst, n_len, ↓n_all, ↓n_rd, ne_len, ne_inst0, Net.bl, instL_net, bne_self_eq_false, hb, w0]
  refine kLoop_of (fun j : Nat => ([.j, .s 0 0 q cp, .j, .p 1 0, .j, .p 2 0, .p 3 0, .j, .j, .c (.int .i64 ((q : Int) - 1 - (j : Int))), .j, .j, .j, .j, .j, .j, .j, .j, .j, .j, .j, .j, .j, .j, .j, .j, .j, .j, .j, .j, .j, .j], [⟨false, bs D⟩, ⟨true, c.cells⟩, ⟨true, bs (c.bak D b q j)⟩, ⟨true, bs (List.replicate 16 0)⟩])) (fun j => q - j) (fun j => j ≤ q) 0 (by omega)
    ⟨[0, 1, 2, 3], by simp [-List.reduceReplicate, LES, n_ren, n_ok, Net.bak]⟩ ?_
  intro j hj
  rcases Nat.lt_or_ge j q with h | h
  · have e1 : (q : Int) - 1 - (j : Int) = ((q - 1 - j : Nat) : Int) := by omega
    simp only [↓VC, VP, TT, Nat.reduceEqDiff, reduceCtorEq, Nat.reduceAdd, Nat.reduceSub, Nat.reduceLT, Nat.reduceMul, Nat.reducePow, Nat.reduceLeDiff, Int.reduceToNat, Int.reduceLE, Int.reduceLT, Int.reducePow, e1, n_len, ↓n_all, hrl, hfA_eq, (eq_true (by omega) : (0 ≤ ((q - 1 - j : Nat) : Int)) = True), (eq_true (by omega) : (((q - 1 - j : Nat) : Int) < ((q : Nat) : Int)) = True), (eq_true (by omega) : (q - 1 - j < q) = True), decide_true]
    try refine ⟨by omega, ?_⟩
    refine kCall_val (k_spec_rbk c (hfA D (q - 1 - j)) (c.bak D b q j) (hfA_len hD (by omega)) (hrl j)) (by rfl) [] (by simp [CALL, SCB, n_inst, n_ok, ne_inst, ne_take, ne_ok, Net.bl, instL_net, okL_net, hD, hb, hx]) (by simp [CALL, SCB, n_inst, n_ok, ne_inst, ne_take, ne_ok, Net.bl, instL_net, okL_net, hD, hb, hx]) (by simp [CALL, SCB, n_inst, n_ok, ne_inst, ne_take, ne_ok, Net.bl, instL_net, okL_net, hD, hb, hx]) (by simp [okL_bs, okL_room, okL, okV, n_inst, n_ok, ne_inst, ne_take, ne_ok, Net.bl, instL_net, okL_net, hD, hb, hx]) ?_
    simp (config := { maxSteps := 2000000 }) only [CALL, ↓VC, VP, TT, Nat.reduceEqDiff, reduceCtorEq, Nat.reduceAdd, Nat.reduceSub, Nat.reduceLT, Nat.reduceMul, Nat.reducePow, Nat.reduceLeDiff, Int.reduceToNat, Int.reduceLE, Int.reduceLT, Int.reducePow, GOB, n_inst, n_len, ↓n_all, ↓n_rd, ne_len, ne_inst0, Net.bl, instL_net, rbk_len _ _ (hrl j), hrl]
    refine ⟨j + 1, by omega, by omega, [0, 1, 2, 3], ?_⟩
    rw [wrap_i64 (by omega) (by omega), show ((q - 1 - j : Nat) : Int) - 1 = (q : Int) - 1 - ((j + 1 : Nat) : Int) by omega]
    simp [-List.reduceReplicate, LES, n_ren, n_ok, Net.bak]
  · obtain rfl : j = q := by omega
    simp only [↓VC, VP, TT, Nat.reduceEqDiff, reduceCtorEq, Nat.reduceAdd, Nat.reduceSub, Nat.reduceLT, Nat.reduceMul, Nat.reducePow, Nat.reduceLeDiff, Int.reduceToNat, Int.reduceLE, Int.reduceLT, Int.reducePow, (eq_false (by omega) : (0 ≤ (j : Int) - 1 - (j : Int)) = False), decide_false, hrl]
    refine ⟨_, _, [0], ⟨rfl, rfl⟩, ?_⟩
    simp [-List.reduceReplicate, LES] <;> rfl
end Go.Proofs.Ytjakgjelnbpmnaa
/- RunNetwork: both. -/
set_option linter.unusedSimpArgs false
set_option linter.unusedVariables false
namespace Go.Proofs.Ytjakgjelnbpmnaa
open Go Go.Vc
set_option maxRecDepth 10000
set_option maxHeartbeats 4000000
theorem codeN_ne {z k n : Int} {box A : List UInt8} {q : Nat} (h : ¬ (netB z box A k n = true ∧ (q : Int) = n)) : codeN z box A k n q ≠ 0 := by
  unfold codeN
  split
  · rw [if_neg (fun e => h ⟨by assumption, e⟩)]; decide
  · decide
theorem c_spec_RunNetwork_no (z k n : Int) (box A b : List UInt8) (hbx : box.length = 256) (hA : A.length = 16) (hb : b.length = 16) (q cp : Nat) (D : List UInt8) (hD : D.length = 8 * q) (hc : q ≤ cp) (hm : q ≤ 1048576) (hE : codeN z box A k n q ≠ 0) : LC Try.prog 7 [.a (netC z box A k n), .s 0 0 q cp, .a (bs b)] [⟨false, bs D⟩] (fun v hp => v = .t [.a (bs (List.replicate 16 0)), .c (.int .i64 (codeN z box A k n q))] ∧ hp = [⟨false, bs D⟩]) := by
  have key1 := c_spec_l06Code z k n box A hbx hA q cp D hD hc hm
  have hx : List.take (8 * q) (bs D) = bs D := List.take_of_length_le (by rw [bs_length]; omega)
  refine LC_of (X := XX (fun | 7 => .one 0 (.one 1 (.one 2 (.one 3 (.one 4 (.one 5 (.one 6 (.one 7 .nil))))))) | _ => .nil) (fun _ => []) [27, 28, 29, 44, 47, 52, 53, 54, 55, 74, 78, 88, 89, 99] 1) envOK Try.func7 (by kernel_rfl) (by kernel_rfl) rfl (Nat.le_of_ble_eq_true (by kernel_rfl)) ?_
  simp only [kFun, Try.f7, List.length_nil, List.length_cons, Nat.sub_zero, Nat.reduceSub, Nat.reduceAdd, List.nil_append, List.cons_append, List.replicate_succ, List.replicate_zero]
  simp only [XX, ↓VC, VP, TT, Nat.reduceEqDiff, reduceCtorEq, Nat.reduceAdd, Nat.reduceSub, Nat.reduceLT, Nat.reduceMul, Nat.reducePow, Nat.reduceLeDiff, Int.reduceToNat, Int.reduceLE, Int.reduceLT, Int.reducePow, netC_len hbx hA, ↓net_all hbx hA, hb]
  refine kCall_val (key1) (by rfl) [(0, 0)] (by simp [CALL, SCB, instL_net, okL_net, hx]) (by simp [CALL, SCB, instL_net, okL_net, hx]) (by simp [CALL, SCB, instL_net, okL_net, hx]) (by simp [okL_bs, okL_room, okL, okV, instL_net, okL_net, hx]) ?_
  simp (config := { maxSteps := 2000000 }) only [CALL, ↓VC, VP, TT, Nat.reduceEqDiff, reduceCtorEq, Nat.reduceAdd, Nat.reduceSub, Nat.reduceLT, Nat.reduceMul, Nat.reducePow, Nat.reduceLeDiff, Int.reduceToNat, Int.reduceLE, Int.reduceLT, Int.reducePow, GOB, instL_net, (bne_iff_ne.2 hE : (codeN z box A k n q != 0) = true), hb]
  refine ⟨_, _, [0], ⟨rfl, rfl⟩, ?_⟩
  simp [-List.reduceReplicate, LES] <;> rfl
theorem c_impl_RunNetwork_no (z k n : Int) (box A b : List UInt8) (hbx : box.length = 256) (hA : A.length = 16) (hb : b.length = 16) (q cp : Nat) (D : List UInt8) (hD : D.length = 8 * q) (hc : q ≤ cp) (hm : q ≤ 1048576) (hE : codeN z box A k n q ≠ 0) : LC Try.prog 6 [.a (netC z box A k n), .s 0 0 q cp, .a (bs b)] [⟨false, bs D⟩] (fun v hp => v = .t [.a (bs (List.replicate 16 0)), .c (.int .i64 (codeN z box A k n q))] ∧ hp = [⟨false, bs D⟩]) := by
  have key1 := c_impl_checkKeys z k n box A hbx hA q cp D hD hc hm
  have hx : List.take (8 * q) (bs D) = bs D := List.take_of_length_le (by rw [bs_length]; omega)
  refine LC_of (X := XX (fun _ => .nil) (fun _ => []) [27, 28, 29, 44, 47, 52, 53, 54, 55, 74, 78, 88, 89, 99] 1) envOK Try.func6 (by kernel_rfl) (by kernel_rfl) rfl (Nat.le_of_ble_eq_true (by kernel_rfl)) ?_
  simp only [kFun, Try.f6, List.length_nil, List.length_cons, Nat.sub_zero, Nat.reduceSub, Nat.reduceAdd, List.nil_append, List.cons_append, List.replicate_succ, List.replicate_zero]
  simp only [XX, ↓VC, VP, TT, Nat.reduceEqDiff, reduceCtorEq, Nat.reduceAdd, Nat.reduceSub, Nat.reduceLT, Nat.reduceMul, Nat.reducePow, Nat.reduceLeDiff, Int.reduceToNat, Int.reduceLE, Int.reduceLT, Int.reducePow, netC_len hbx hA, ↓net_all hbx hA, hb]
  refine kCall_val (key1) (by rfl) [(0, 0)] (by simp [CALL, SCB, instL_net, okL_net, hx]) (by simp [CALL, SCB, instL_net, okL_net, hx]) (by simp [CALL, SCB, instL_net, okL_net, hx]) (by simp [okL_bs, okL_room, okL, okV, instL_net, okL_net, hx]) ?_
  simp (config := { maxSteps := 2000000 }) only [CALL, ↓VC, VP, TT, Nat.reduceEqDiff, reduceCtorEq, Nat.reduceAdd, Nat.reduceSub, Nat.reduceLT, Nat.reduceMul, Nat.reducePow, Nat.reduceLeDiff, Int.reduceToNat, Int.reduceLE, Int.reduceLT, Int.reducePow, GOB, instL_net, (bne_iff_ne.2 hE : (codeN z box A k n q != 0) = true), hb]
  refine ⟨_, _, [0], ⟨rfl, rfl⟩, ?_⟩
  simp [-List.reduceReplicate, LES] <;> rfl
theorem run_both (z k n : Int) (box A b : List UInt8) (hbx : box.length = 256) (hA : A.length = 16) (hb : b.length = 16) (q : Nat) (D : List UInt8) (hD : D.length = 8 * q) (hm : q ≤ 1048576) : ∃ (o : List UInt8) (e : Int), o.length = 16 ∧
    LC Try.prog 7 [.a (netC z box A k n), .s 0 0 q q, .a (bs b)] [⟨false, bs D⟩] (fun v hp => v = .t [.a (bs o), .c (.int .i64 (e))] ∧ hp = [⟨false, bs D⟩]) ∧
    LC Try.prog 6 [.a (netC z box A k n), .s 0 0 q q, .a (bs b)] [⟨false, bs D⟩] (fun v hp => v = .t [.a (bs o), .c (.int .i64 (e))] ∧ hp = [⟨false, bs D⟩]) := by
  by_cases h : netB z box A k n = true ∧ (q : Int) = n
  · obtain ⟨hB, hq⟩ := h
    obtain ⟨c, rfl, rfl, rfl, rfl, rfl⟩ := net_of hbx hA hB
    exact ⟨c.run D b q, 0, run_len hb q, k_spec_run c q q D b hD (Nat.le_refl _) hm hb (by omega), k_impl_run c q q D b hD (Nat.le_refl _) hm hb (by omega)⟩
  · exact ⟨List.replicate 16 0, codeN z box A k n q, by simp, c_spec_RunNetwork_no z k n box A b hbx hA hb q q D hD (Nat.le_refl _) hm (codeN_ne h), c_impl_RunNetwork_no z k n box A b hbx hA hb q q D hD (Nat.le_refl _) hm (codeN_ne h)⟩
end Go.Proofs.Ytjakgjelnbpmnaa
/- Networks there and back: the round function's inverse, rounds back, halves with turned keys, complements. No program in sight. -/
set_option linter.unusedSimpArgs false
set_option linter.unusedVariables false
namespace Go.Proofs.Ytjakgjelnbpmnaa
open Go Go.Vc
set_option maxRecDepth 10000
set_option maxHeartbeats 4000000
theorem scat_fn {M : List UInt8} (h : M.length = 8) : scat (tab 8 fun i => M.getD (3 * i % 8) 0) 8 = M := by
  match M, h with
  | [_, _, _, _, _, _, _, _], _ => rfl
/-- What makes a network's rounds go back. -/
structure TwoN (m : Nat) (box A : List UInt8) : Prop where
  f : fieldB (m : Int) = true
  hA : A.length = 16
  i : invB (m : Int) A = true
  b : box.length = 256
  bd : box.Nodup
section
variable {m : Nat} {box A key : List UInt8}
theorem fb_fn (h : TwoN m box A) {x : List UInt8} (hx : x.length = 8) : fbL m box (backL m A) key (fnL m box A key x) = x := by
  have h256 : ∀ i, i < 256 → (box.getD i 0).toNat < 256 := fun i _ => UInt8.toNat_lt _
  have h1 : scat (fnL m box A key x) 8 = mixL 8 m A (fnU box key x) := scat_fn (mixL_len _ _ _ _)
  have h2 : mixL 8 m (backL m A) (mixL 8 m A (fnU box key x)) = fnU box key x := (mix_back (n := 2) h.f h.hA h.i (fnU_len _ _ _)).1
  unfold fbL
  rw [h1, h2]
  refine ext_getD (tab_len _ _) hx fun i hi => ?_
  unfold fnU
  rw [map_getD hi, map_getD hi, inv_left (by omega) h.b h256 h.bd (UInt8.toNat_lt _), ofInt_toNat, UInt8.xor_assoc, UInt8.xor_self, UInt8.xor_zero]
theorem xorN_self {n : Nat} {a b : List UInt8} (hb : b.length = n) : xorN n a (xorN n a b) = b := by
  refine ext_getD (xorN_len _ _ _) hb fun i hi => ?_
  unfold xorN
  rw [map_getD hi, map_getD hi, ← UInt8.xor_assoc, UInt8.xor_self, UInt8.zero_xor]
theorem rbk_rnd (h : TwoN m box A) {kind : Int} {b : List UInt8} (hb : b.length = 16) : rbkL m box A (backL m A) kind key (rndL m box A kind key b) = b := by
  have hd : (b.drop 8).length = 8 := by rw [List.length_drop]; omega
  have ht : (b.take 8).length = 8 := by rw [List.length_take]; omega
  by_cases h0 : kind = 0
  · unfold rndL rbkL
    simp only [if_pos h0]
    rw [List.take_left' hd, List.drop_left' hd, xorN_two ht, List.take_append_drop]
  by_cases h1 : kind = 1
  · unfold rndL rbkL
    simp only [if_neg h0, if_pos h1]
    rw [List.take_left' hd, List.drop_left' hd, xorN_self (fnL_len _ _ _ _ _), fb_fn h ht, List.take_append_drop]
  · unfold rndL rbkL
    simp only [if_neg h0, if_neg h1]
    generalize hF : fnL m box A key (b.take 4 ++ (b.drop 8).take 4) = F
    have hg : ∀ x, x < 16 → (tab 16 (qN b F)).getD x 0 = qN b F x := fun x hx => map_getD hx
    have e1 : List.drop 4 (List.drop 8 (tab 16 (qN b F))) = b.take 4 := by
      refine ext_getD (n := 4) (by simp [tab_len]) (by rw [List.length_take]; omega) fun j hj => ?_
      have := hg (8 + (4 + j)) (by omega)
      rw [List.getD_eq_getElem?_getD] at this
      rw [List.getD_eq_getElem?_getD, List.getElem?_drop, List.getElem?_drop, this, List.getD_eq_getElem?_getD, List.getElem?_take, if_pos hj, ← List.getD_eq_getElem?_getD]
      unfold qN
      rw [if_neg (by omega), if_neg (by omega), if_neg (by omega), show 8 + (4 + j) - 12 = j by omega]
    have e2 : List.drop 4 (List.take 8 (tab 16 (qN b F))) = (b.drop 8).take 4 := by
      refine ext_getD (n := 4) (by simp [tab_len]) (by rw [List.length_take, List.length_drop]; omega) fun j hj => ?_
      have := hg (4 + j) (by omega)
      rw [List.getD_eq_getElem?_getD] at this
      rw [List.getD_eq_getElem?_getD, List.getElem?_drop, List.getElem?_take, if_pos (by omega), this, List.getD_eq_getElem?_getD, List.getElem?_take, if_pos hj, List.getElem?_drop, ← List.getD_eq_getElem?_getD]
      unfold qN
      rw [if_neg (by omega), if_pos (by omega), show 4 + (4 + j) = 8 + j by omega]
    rw [e1, e2, hF]
    refine ext_getD (tab_len _ _) hb fun x hx => ?_
    rw [map_getD hx]
    unfold qB
    by_cases g1 : x < 4
    · rw [if_pos g1, hg _ (by omega)]
      unfold qN
      rw [if_neg (by omega), if_neg (by omega), if_neg (by omega), show 12 + x - 12 = x by omega]
    · rw [if_neg g1]
      by_cases g2 : x < 8
      · rw [if_pos g2, hg _ (by omega)]
        unfold qN
        rw [if_pos (by omega), UInt8.xor_assoc, UInt8.xor_self, UInt8.xor_zero, show 4 + (x - 4) = x by omega]
      · rw [if_neg g2]
        by_cases g3 : x < 12
        · rw [if_pos g3, hg _ (by omega)]
          unfold qN
          rw [if_neg (by omega), if_pos (by omega), show 4 + (x - 4) = x by omega]
        · rw [if_neg g3, hg _ (by omega)]
          unfold qN
          rw [if_neg (by omega), if_neg (by omega), if_pos (by omega), show x - 4 - 4 = x - 8 by omega, UInt8.xor_assoc, UInt8.xor_self, UInt8.xor_zero, show 4 + (x - 4) = x by omega]
/-- Halves exchanged. -/
def exch (b : List UInt8) : List UInt8 := b.drop 8 ++ b.take 8
theorem exch_len {b : List UInt8} (hb : b.length = 16) : (exch b).length = 16 := by unfold exch; rw [List.length_append, List.length_drop, List.length_take]; omega
theorem exch_two {b : List UInt8} (hb : b.length = 16) : exch (exch b) = b := by
  have hd : (b.drop 8).length = 8 := by rw [List.length_drop]; omega
  unfold exch
  rw [List.take_left' hd, List.drop_left' hd, List.take_append_drop]
theorem rnd_exch {b : List UInt8} (hb : b.length = 16) : rndL m box A 0 key (exch (rndL m box A 0 key b)) = exch b := by
  have hd : (b.drop 8).length = 8 := by rw [List.length_drop]; omega
  have ht : (b.take 8).length = 8 := by rw [List.length_take]; omega
  unfold rndL exch
  simp only [if_pos rfl, if_true]
  have hx := xorN_len 8 (b.take 8) (fnL m box A key (b.drop 8))
  rw [List.drop_left' hd, List.take_left' hd, List.drop_left' hx, List.take_left' hx, xorN_two ht]
/-- n bytes, each combined with 255. -/
def cmpN (n : Nat) (b : List UInt8) : List UInt8 := tab n fun i => b.getD i 0 ^^^ 255
theorem cmpN_len (n : Nat) (b : List UInt8) : (cmpN n b).length = n := tab_len _ _
theorem cmpN_two {n : Nat} {b : List UInt8} (hb : b.length = n) : cmpN n (cmpN n b) = b := by
  refine ext_getD (cmpN_len _ _) hb fun i hi => ?_
  unfold cmpN
  rw [map_getD hi, map_getD hi, UInt8.xor_assoc, UInt8.xor_self, UInt8.xor_zero]
theorem fn_cmp (x : List UInt8) : fnL m box A (cmpN 8 key) (cmpN 8 x) = fnL m box A key x := by
  have : fnU box (cmpN 8 key) (cmpN 8 x) = fnU box key x := by
    unfold fnU
    refine tab_congr fun i hi => ?_
    unfold cmpN
    rw [map_getD hi, map_getD hi, UInt8.xor_assoc, UInt8.xor_comm 255, UInt8.xor_assoc, UInt8.xor_self, UInt8.xor_zero]
  unfold fnL
  rw [this]
theorem cmp_drop {b : List UInt8} (hb : b.length = 16) : (cmpN 16 b).drop 8 = cmpN 8 (b.drop 8) := by
  refine ext_getD (n := 8) (by rw [List.length_drop, cmpN_len]) (cmpN_len _ _) fun i hi => ?_
  have h1 := map_getD (g := fun i => b.getD i 0 ^^^ 255) (show 8 + i < 16 by omega)
  unfold cmpN
  rw [map_getD hi, List.getD_eq_getElem?_getD, List.getElem?_drop, ← List.getD_eq_getElem?_getD, h1]
  simp only [List.getD_eq_getElem?_getD, List.getElem?_drop]
theorem cmp_take {b : List UInt8} (hb : b.length = 16) : (cmpN 16 b).take 8 = cmpN 8 (b.take 8) := by
  refine ext_getD (n := 8) (by rw [List.length_take, cmpN_len]; rfl) (cmpN_len _ _) fun i hi => ?_
  have h1 := map_getD (g := fun i => b.getD i 0 ^^^ 255) (show i < 16 by omega)
  unfold cmpN
  rw [map_getD hi, List.getD_eq_getElem?_getD, List.getElem?_take, if_pos hi, ← List.getD_eq_getElem?_getD, h1]
  simp only [List.getD_eq_getElem?_getD, List.getElem?_take, if_pos hi]
theorem cmp_app {a b : List UInt8} (ha : a.length = 8) (hb : b.length = 8) : cmpN 8 a ++ cmpN 8 b = cmpN 16 (a ++ b) := by
  have hl : (a ++ b).length = 16 := by rw [List.length_append]; omega
  have h1 := cmp_take hl
  have h2 := cmp_drop hl
  rw [List.take_left' ha] at h1
  rw [List.drop_left' ha] at h2
  rw [← h1, ← h2, List.take_append_drop]
theorem xor_cmp {a f : List UInt8} : xorN 8 (cmpN 8 a) f = cmpN 8 (xorN 8 a f) := by
  unfold xorN cmpN
  refine tab_congr fun i hi => ?_
  rw [map_getD hi, map_getD hi, UInt8.xor_assoc, UInt8.xor_comm 255, ← UInt8.xor_assoc]
theorem rnd_cmp {b : List UInt8} (hb : b.length = 16) : rndL m box A 0 (cmpN 8 key) (cmpN 16 b) = cmpN 16 (rndL m box A 0 key b) := by
  have hd : (b.drop 8).length = 8 := by rw [List.length_drop]; omega
  unfold rndL
  simp only [if_pos rfl, if_true]
  rw [cmp_drop hb, cmp_take hb, fn_cmp, xor_cmp, cmp_app hd (xorN_len _ _ _)]
end
end Go.Proofs.Ytjakgjelnbpmnaa
/- Networks run there and back, with turned keys, with complements. No program in sight but the cipher's structure. -/
set_option linter.unusedSimpArgs false
set_option linter.unusedVariables false
namespace Go.Proofs.Ytjakgjelnbpmnaa
open Go Go.Vc
set_option maxRecDepth 10000
set_option maxHeartbeats 4000000
theorem Net.two (c : Net) : TwoN c.m c.box c.A := by
  have h := c.is
  unfold netB at h
  simp only [Bool.and_eq_true] at h
  obtain ⟨h1, h2, h3, _⟩ := h
  unfold permB at h2
  rw [decide_eq_true_eq] at h2
  exact ⟨h1, c.hA, h3, c.hb, h2⟩
theorem Net.fb_fn (c : Net) (key : List UInt8) {x : List UInt8} (hx : x.length = 8) : c.fb key (c.fn key x) = x := Go.Proofs.Ytjakgjelnbpmnaa.fb_fn c.two hx
theorem Net.rbk_rnd (c : Net) (key : List UInt8) {b : List UInt8} (hb : b.length = 16) : c.rbk key (c.rnd key b) = b := Go.Proofs.Ytjakgjelnbpmnaa.rbk_rnd c.two hb
section
variable {c : Net} {D b : List UInt8} {q : Nat}
theorem bak_run (hb : b.length = 16) : ∀ j, j ≤ q → c.bak D (c.run D b q) q j = c.run D b (q - j)
  | 0, _ => rfl
  | j + 1, h => by
    have e : q - j = (q - 1 - j) + 1 := by omega
    rw [Net.bak, bak_run hb j (by omega), e, Net.run, c.rbk_rnd _ (run_len hb _), show q - (j + 1) = q - 1 - j by omega]
theorem run_back (hb : b.length = 16) : c.bak D (c.run D b q) q q = b := by
  rw [bak_run hb q (Nat.le_refl _), Nat.sub_self, Net.run]
theorem run_turn (hk : c.k = 0) (hb : b.length = 16) {R : List UInt8} (hR : ∀ i, i < q → hfA R i = hfA D (q - 1 - i)) : ∀ i, i ≤ q → c.run R (exch (c.run D b q)) i = exch (c.run D b (q - i))
  | 0, _ => rfl
  | i + 1, h => by
    have e : q - i = (q - 1 - i) + 1 := by omega
    rw [Net.run, run_turn hk hb hR i (by omega), e, Net.run, hR i (by omega)]
    unfold Net.rnd
    rw [hk, rnd_exch (run_len hb _), show q - (i + 1) = q - 1 - i by omega]
theorem run_turned (hk : c.k = 0) (hb : b.length = 16) {R : List UInt8} (hR : ∀ i, i < q → hfA R i = hfA D (q - 1 - i)) : exch (c.run R (exch (c.run D b q)) q) = b := by
  rw [run_turn hk hb hR q (Nat.le_refl _), Nat.sub_self, Net.run, exch_two hb]
theorem run_cmp (hk : c.k = 0) (hb : b.length = 16) {C : List UInt8} (hC : ∀ i, i < q → hfA C i = cmpN 8 (hfA D i)) : ∀ i, i ≤ q → c.run C (cmpN 16 b) i = cmpN 16 (c.run D b i)
  | 0, _ => rfl
  | i + 1, h => by
    rw [Net.run, run_cmp hk hb hC i (by omega), Net.run, hC i (by omega)]
    unfold Net.rnd
    rw [hk, rnd_cmp (run_len hb _)]
end
end Go.Proofs.Ytjakgjelnbpmnaa
