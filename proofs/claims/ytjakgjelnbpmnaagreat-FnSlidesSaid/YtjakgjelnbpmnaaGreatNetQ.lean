import Derived.Test.YtjakgjelnbpmnaaGreatNetF
import Derived.Test.YtjakgjelnbpmnaaGreatNetC
import Derived.Test.YtjakgjelnbpmnaaGreatNetB
import Derived.Test.YtjakgjelnbpmnaaGreatNetI
import Derived.Test.YtjakgjelnbpmnaaGreatNetM
import Derived.Test.YtjakgjelnbpmnaaGreatCipA
/- RunNetwork: the program and the reference. -/
set_option linter.unusedSimpArgs false
set_option linter.unusedVariables false
namespace Go.Proofs.YtjakgjelnbpmnaaGreat
open Go Go.Vc
set_option maxRecDepth 10000
set_option maxHeartbeats 4000000
def Net.run (c : Net) (D b : List UInt8) : Nat → List UInt8
  | 0 => b
  | i + 1 => c.rnd (hfA D i) (c.run D b i)
theorem run_len {c : Net} {D b : List UInt8} (hb : b.length = 16) : ∀ i, (c.run D b i).length = 16
  | 0 => hb
  | i + 1 => rnd_len _ _ (run_len hb i)
/-- What stands against a run. -/
def codeN (z : Int) (box A : List UInt8) (k n : Int) (q : Nat) : Int := if netB z box A k n = true then (if (q : Int) = n then 0 else 2) else 1
theorem c_length_half (q c : Nat) (D : List UInt8) : LC Tryz.prog 74 [.s 0 0 q c] [⟨false, bs D⟩] (fun v hp => v = .c (.int .i64 (q)) ∧ hp = [⟨false, bs D⟩]) := by
  refine LC_of (X := XX (fun _ => .nil) (fun _ => []) [33, 34, 35, 36, 39, 45, 53, 54, 65, 75, 90, 91, 92, 104] 1) envOK Tryz.func74 (by kernel_rfl) (by kernel_rfl) rfl (Nat.le_of_ble_eq_true (by kernel_rfl)) ?_
  simp only [kFun, Tryz.f74, List.length_nil, List.length_cons, Nat.sub_zero, Nat.reduceSub, Nat.reduceAdd, List.nil_append, List.cons_append, List.replicate_succ, List.replicate_zero]
  simp only [XX, ↓VC, VP, TT, Nat.reduceEqDiff, reduceCtorEq, Nat.reduceAdd, Nat.reduceSub, Nat.reduceLT, Nat.reduceMul, Nat.reducePow, Nat.reduceLeDiff, Int.reduceToNat, Int.reduceLE, Int.reduceLT, Int.reducePow]
  refine ⟨_, _, [0], ⟨rfl, rfl⟩, ?_⟩
  simp [-List.reduceReplicate, LES] <;> rfl
theorem c_impl_checkKeys (z k n : Int) (box A : List UInt8) (hbx : box.length = 256) (hA : A.length = 16) (q c : Nat) (D : List UInt8) (hD : D.length = 8 * q) (hc : q ≤ c) (hm : q ≤ 1048576) : LC Tryz.prog 44 [.a (netC z box A k n), .s 0 0 q c] [⟨false, bs D⟩] (fun v hp => v = .c (.int .i64 (codeN z box A k n q)) ∧ hp = [⟨false, bs D⟩]) := by
  have hx : List.take (8 * q) (bs D) = bs D := List.take_of_length_le (by rw [bs_length]; omega)
  have hb := hD
  refine LC_of (X := XX (fun | 3 => .one 0 (.one 2 (.one 3 (.one 1 (.one 4 (.one 5 .nil))))) | _ => .nil) (fun _ => []) [33, 34, 35, 36, 39, 45, 53, 54, 65, 75, 90, 91, 92, 104] 1) envOK Tryz.func44 (by kernel_rfl) (by kernel_rfl) rfl (Nat.le_of_ble_eq_true (by kernel_rfl)) ?_
  simp only [kFun, Tryz.f44, List.length_nil, List.length_cons, Nat.sub_zero, Nat.reduceSub, Nat.reduceAdd, List.nil_append, List.cons_append, List.replicate_succ, List.replicate_zero]
  simp only [XX, ↓VC, VP, TT, Nat.reduceEqDiff, reduceCtorEq, Nat.reduceAdd, Nat.reduceSub, Nat.reduceLT, Nat.reduceMul, Nat.reducePow, Nat.reduceLeDiff, Int.reduceToNat, Int.reduceLE, Int.reduceLT, Int.reducePow, netC_len hbx hA, ↓net_all hbx hA]
  cases hB : netB z box A k n with
  | false =>
    refine kCall_val (c_impl_IsNetwork z k n box A hbx hA) (by rfl) [] (by simp [CALL, SCB, n_inst, n_ok, ne_inst, ne_take, ne_ok, Net.bl, instL_net, okL_net, hD, hb, hx]) (by simp [CALL, SCB, n_inst, n_ok, ne_inst, ne_take, ne_ok, Net.bl, instL_net, okL_net, hD, hb, hx]) (by simp [CALL, SCB, n_inst, n_ok, ne_inst, ne_take, ne_ok, Net.bl, instL_net, okL_net, hD, hb, hx]) (by simp [okL_bs, okL_room, okL, okV, n_inst, n_ok, ne_inst, ne_take, ne_ok, Net.bl, instL_net, okL_net, hD, hb, hx]) ?_
    simp (config := { maxSteps := 2000000 }) only [CALL, ↓VC, VP, TT, Nat.reduceEqDiff, reduceCtorEq, Nat.reduceAdd, Nat.reduceSub, Nat.reduceLT, Nat.reduceMul, Nat.reducePow, Nat.reduceLeDiff, Int.reduceToNat, Int.reduceLE, Int.reduceLT, Int.reducePow, GOB, n_inst, n_len, ↓n_all, ↓n_rd, ne_len, ne_inst0, Net.bl, instL_net, hB]
    refine ⟨_, _, [0], ⟨rfl, rfl⟩, ?_⟩
    simp [-List.reduceReplicate, LES, codeN, hB] <;> rfl
  | true =>
    refine kCall_val (c_impl_IsNetwork z k n box A hbx hA) (by rfl) [] (by simp [CALL, SCB, n_inst, n_ok, ne_inst, ne_take, ne_ok, Net.bl, instL_net, okL_net, hD, hb, hx]) (by simp [CALL, SCB, n_inst, n_ok, ne_inst, ne_take, ne_ok, Net.bl, instL_net, okL_net, hD, hb, hx]) (by simp [CALL, SCB, n_inst, n_ok, ne_inst, ne_take, ne_ok, Net.bl, instL_net, okL_net, hD, hb, hx]) (by simp [okL_bs, okL_room, okL, okV, n_inst, n_ok, ne_inst, ne_take, ne_ok, Net.bl, instL_net, okL_net, hD, hb, hx]) ?_
    simp (config := { maxSteps := 2000000 }) only [CALL, ↓VC, VP, TT, Nat.reduceEqDiff, reduceCtorEq, Nat.reduceAdd, Nat.reduceSub, Nat.reduceLT, Nat.reduceMul, Nat.reducePow, Nat.reduceLeDiff, Int.reduceToNat, Int.reduceLE, Int.reduceLT, Int.reducePow, GOB, n_inst, n_len, ↓n_all, ↓n_rd, ne_len, ne_inst0, Net.bl, instL_net, hB, ↓net_rd hbx hA]
    refine kCall_val (c_length_half q c D) (by rfl) [(0, 0)] (by simp [CALL, SCB, n_inst, n_ok, ne_inst, ne_take, ne_ok, Net.bl, instL_net, okL_net, hD, hb, hx]) (by simp [CALL, SCB, n_inst, n_ok, ne_inst, ne_take, ne_ok, Net.bl, instL_net, okL_net, hD, hb, hx]) (by simp [CALL, SCB, n_inst, n_ok, ne_inst, ne_take, ne_ok, Net.bl, instL_net, okL_net, hD, hb, hx]) (by simp [okL_bs, okL_room, okL, okV, n_inst, n_ok, ne_inst, ne_take, ne_ok, Net.bl, instL_net, okL_net, hD, hb, hx]) ?_
    simp (config := { maxSteps := 2000000 }) only [CALL, ↓VC, VP, TT, Nat.reduceEqDiff, reduceCtorEq, Nat.reduceAdd, Nat.reduceSub, Nat.reduceLT, Nat.reduceMul, Nat.reducePow, Nat.reduceLeDiff, Int.reduceToNat, Int.reduceLE, Int.reduceLT, Int.reducePow, GOB, n_inst, n_len, ↓n_all, ↓n_rd, ne_len, ne_inst0, Net.bl, instL_net, ↓net_rd hbx hA]
    refine ⟨fun h1 => ?_, fun h1 => ?_⟩
    · have h2 : ¬ (q : Int) = n := by simpa using h1
      refine ⟨_, _, [0], ⟨rfl, rfl⟩, ?_⟩
      simp [-List.reduceReplicate, LES, codeN, hB, h2] <;> rfl
    · have h2 : (q : Int) = n := by simpa using h1
      refine ⟨_, _, [0], ⟨rfl, rfl⟩, ?_⟩
      simp [-List.reduceReplicate, LES, codeN, hB, h2] <;> rfl
theorem k_impl_run (c : Net) (q cp : Nat) (D b : List UInt8) (hD : D.length = 8 * q) (hc : q ≤ cp) (hm : q ≤ 1048576) (hb : b.length = 16) (hq : q = c.n) : LC Tryz.prog 9 [.a c.cells, .s 0 0 q cp, .a (bs b)] [⟨false, bs D⟩] (fun v hp => v = .t [.a (bs (c.run D b q)), .c (.int .i64 (0))] ∧ hp = [⟨false, bs D⟩]) := by
  have key1 := c_impl_checkKeys c.m c.k c.n c.box c.A c.hb c.hA q cp D hD hc hm
  rw [show codeN c.m c.box c.A c.k c.n q = 0 by unfold codeN; rw [if_pos c.is, if_pos (by omega)], show netC c.m c.box c.A c.k c.n = c.cells from rfl] at key1
  have hx : List.take (8 * q) (bs D) = bs D := List.take_of_length_le (by rw [bs_length]; omega)
  have hrl := fun i => run_len (c := c) (D := D) hb i
  refine LC_of (X := XX (fun _ => .nil) (fun _ => []) [33, 34, 35, 36, 39, 45, 53, 54, 65, 75, 90, 91, 92, 104] 1) envOK Tryz.func9 (by kernel_rfl) (by kernel_rfl) rfl (Nat.le_of_ble_eq_true (by kernel_rfl)) ?_
  simp only [kFun, Tryz.f9, List.length_nil, List.length_cons, Nat.sub_zero, Nat.reduceSub, Nat.reduceAdd, List.nil_append, List.cons_append, List.replicate_succ, List.replicate_zero]
  simp only [XX, ↓VC, VP, TT, Nat.reduceEqDiff, reduceCtorEq, Nat.reduceAdd, Nat.reduceSub, Nat.reduceLT, Nat.reduceMul, Nat.reducePow, Nat.reduceLeDiff, Int.reduceToNat, Int.reduceLE, Int.reduceLT, Int.reducePow, n_len, ↓n_all, hb]
  refine kCall_val (key1) (by rfl) [(0, 0)] (by simp [CALL, SCB, n_inst, n_ok, ne_inst, ne_take, ne_ok, Net.bl, instL_net, okL_net, hD, hb, hx]) (by simp [CALL, SCB, n_inst, n_ok, ne_inst, ne_take, ne_ok, Net.bl, instL_net, okL_net, hD, hb, hx]) (by simp [CALL, SCB, n_inst, n_ok, ne_inst, ne_take, ne_ok, Net.bl, instL_net, okL_net, hD, hb, hx]) (by simp [okL_bs, okL_room, okL, okV, n_inst, n_ok, ne_inst, ne_take, ne_ok, Net.bl, instL_net, okL_net, hD, hb, hx]) ?_
  simp (config := { maxSteps := 2000000 }) only [CALL, ↓VC, VP, TT, Nat.reduceEqDiff, reduceCtorEq, Nat.reduceAdd, Nat.reduceSub, Nat.reduceLT, Nat.reduceMul, Nat.reducePow, Nat.reduceLeDiff, Int.reduceToNat, Int.reduceLE, Int.reduceLT, Int.reducePow, GOB, n_inst, n_len, ↓n_all, ↓n_rd, ne_len, ne_inst0, Net.bl, instL_net, bne_self_eq_false, hb]
  refine kCall_Ret (k_newNet c) (by rfl) [] (by simp [CALL, SCB, n_inst, n_ok, ne_inst, ne_take, ne_ok, Net.bl, instL_net, okL_net, hD, hb, hx]) (by simp [CALL, SCB, n_inst, n_ok, ne_inst, ne_take, ne_ok, Net.bl, instL_net, okL_net, hD, hb, hx]) (by simp [CALL, SCB, n_inst, n_ok, ne_inst, ne_take, ne_ok, Net.bl, instL_net, okL_net, hD, hb, hx]) (by simp [okL_bs, okL_room, okL, okV, n_inst, n_ok, ne_inst, ne_take, ne_ok, Net.bl, instL_net, okL_net, hD, hb, hx]) (by simp [CALL, SCB, n_inst, n_ok, ne_inst, ne_take, ne_ok, Net.bl, instL_net, okL_net, hD, hb, hx]) fun _ _ => ?_
  simp (config := { maxSteps := 2000000 }) only [CALL, ↓VC, VP, TT, Nat.reduceEqDiff, reduceCtorEq, Nat.reduceAdd, Nat.reduceSub, Nat.reduceLT, Nat.reduceMul, Nat.reducePow, Nat.reduceLeDiff, Int.reduceToNat, Int.reduceLE, Int.reduceLT, Int.reducePow, GOB, n_inst, n_len, ↓n_all, ↓n_rd, ne_len, ne_inst0, Net.bl, instL_net, hb]
  refine kLoop_of (fun i : Nat => ([.j, .j, .j, .j, .j, .p 1 0, .p 2 0, .j, .j, .p 3 0, .j, .j, .j, .j, .j, .j, .j, .j, .j, .j, .j, .s 0 0 q cp, .c (.int .i64 (q)), .c (.int .i64 (i)), .j, .j, .j, .j, .j, .j, .j, .j, .j], [⟨false, bs D⟩, ⟨true, bs (c.run D b i)⟩, ⟨true, bs (List.replicate 16 0)⟩, ⟨true, c.eng 4 5⟩, ⟨true, bs c.t1⟩, ⟨true, bs c.t2⟩])) (fun i => q - i) (fun i => i ≤ q) 0 (by omega)
    ⟨[0, 2, 3, 4, 5, 6], by simp [-List.reduceReplicate, LES, ne_ren, ne_ok, Net.run]⟩ ?_
  intro i hi
  rcases Nat.lt_or_ge i q with h | h
  · have hh := hfA_len hD h
    simp only [↓VC, VP, TT, Nat.reduceEqDiff, reduceCtorEq, Nat.reduceAdd, Nat.reduceSub, Nat.reduceLT, Nat.reduceMul, Nat.reducePow, Nat.reduceLeDiff, Int.reduceToNat, Int.reduceLE, Int.reduceLT, Int.reducePow, h, (eq_true (by omega) : ((i : Int) < q) = True), (eq_true (by omega) : ((i : Int) < ((q : Nat) : Int)) = True), wrap_i64 (n := (i : Int) + 1) (by omega) (by omega), decide_true, hrl, hfA_eq, hh]
    refine ⟨by omega, ?_⟩
    refine kCall_val (k_impl_rnd c (hfA D i) (c.run D b i) hh (hrl i)) (by rfl) [(3, 0), (4, 0), (5, 0)] (by simp [CALL, SCB, n_inst, n_ok, ne_inst, ne_take, ne_ok, Net.bl, instL_net, okL_net, hD, hb, hx]) (by simp [CALL, SCB, n_inst, n_ok, ne_inst, ne_take, ne_ok, Net.bl, instL_net, okL_net, hD, hb, hx]) (by simp [CALL, SCB, n_inst, n_ok, ne_inst, ne_take, ne_ok, Net.bl, instL_net, okL_net, hD, hb, hx]) (by simp [okL_bs, okL_room, okL, okV, n_inst, n_ok, ne_inst, ne_take, ne_ok, Net.bl, instL_net, okL_net, hD, hb, hx]) ?_
    simp (config := { maxSteps := 2000000 }) only [CALL, ↓VC, VP, TT, Nat.reduceEqDiff, reduceCtorEq, Nat.reduceAdd, Nat.reduceSub, Nat.reduceLT, Nat.reduceMul, Nat.reducePow, Nat.reduceLeDiff, Int.reduceToNat, Int.reduceLE, Int.reduceLT, Int.reducePow, GOB, n_inst, n_len, ↓n_all, ↓n_rd, ne_len, ne_inst0, Net.bl, instL_net, rnd_len _ _ (hrl i), hrl]
    refine ⟨i + 1, by omega, by omega, [0, 1, 2, 3, 4, 5], ?_⟩
    rw [wrap_i64 (by omega) (by omega)]
    simp [-List.reduceReplicate, LES, ne_ren, ne_ok, Net.run]
  · obtain rfl : i = q := by omega
    simp only [↓VC, VP, TT, Nat.reduceEqDiff, reduceCtorEq, Nat.reduceAdd, Nat.reduceSub, Nat.reduceLT, Nat.reduceMul, Nat.reducePow, Nat.reduceLeDiff, Int.reduceToNat, Int.reduceLE, Int.reduceLT, Int.reducePow, (eq_false (by omega) : ((i : Int) < (i : Int)) = False), decide_false, hrl]
    refine ⟨_, _, [0], ⟨rfl, rfl⟩, ?_⟩
    simp [-List.reduceReplicate, LES] <;> rfl
end Go.Proofs.YtjakgjelnbpmnaaGreat
/- RunBack: the reference. -/
set_option linter.unusedSimpArgs false
set_option linter.unusedVariables false
namespace Go.Proofs.YtjakgjelnbpmnaaGreat
open Go Go.Vc
set_option maxRecDepth 10000
set_option maxHeartbeats 4000000
end Go.Proofs.YtjakgjelnbpmnaaGreat
/- RunNetwork: both. -/
set_option linter.unusedSimpArgs false
set_option linter.unusedVariables false
namespace Go.Proofs.YtjakgjelnbpmnaaGreat
open Go Go.Vc
set_option maxRecDepth 10000
set_option maxHeartbeats 4000000
end Go.Proofs.YtjakgjelnbpmnaaGreat
/- Networks there and back: the round function's inverse, rounds back, halves with turned keys, complements. No program in sight. -/
set_option linter.unusedSimpArgs false
set_option linter.unusedVariables false
namespace Go.Proofs.YtjakgjelnbpmnaaGreat
open Go Go.Vc
set_option maxRecDepth 10000
set_option maxHeartbeats 4000000
/-- What makes a network's rounds go back. -/
structure TwoN (m : Nat) (box A : List UInt8) : Prop where
  f : fieldB (m : Int) = true
  hA : A.length = 16
  i : invB (m : Int) A = true
  b : box.length = 256
  bd : box.Nodup
section
variable {m : Nat} {box A key : List UInt8}
/-- Halves exchanged. -/
def exch (b : List UInt8) : List UInt8 := b.drop 8 ++ b.take 8
theorem exch_len {b : List UInt8} (hb : b.length = 16) : (exch b).length = 16 := by unfold exch; rw [List.length_append, List.length_drop, List.length_take]; omega
theorem exch_two {b : List UInt8} (hb : b.length = 16) : exch (exch b) = b := by
  have hd : (b.drop 8).length = 8 := by rw [List.length_drop]; omega
  unfold exch
  rw [List.take_left' hd, List.drop_left' hd, List.take_append_drop]
/-- n bytes, each combined with 255. -/
def cmpN (n : Nat) (b : List UInt8) : List UInt8 := tab n fun i => b.getD i 0 ^^^ 255
theorem cmpN_len (n : Nat) (b : List UInt8) : (cmpN n b).length = n := tab_len _ _
theorem cmpN_two {n : Nat} {b : List UInt8} (hb : b.length = n) : cmpN n (cmpN n b) = b := by
  refine ext_getD (cmpN_len _ _) hb fun i hi => ?_
  unfold cmpN
  rw [map_getD hi, map_getD hi, UInt8.xor_assoc, UInt8.xor_self, UInt8.xor_zero]
end
end Go.Proofs.YtjakgjelnbpmnaaGreat
/- Networks run there and back, with turned keys, with complements. No program in sight but the cipher's structure. -/
set_option linter.unusedSimpArgs false
set_option linter.unusedVariables false
namespace Go.Proofs.YtjakgjelnbpmnaaGreat
open Go Go.Vc
set_option maxRecDepth 10000
set_option maxHeartbeats 4000000
section
variable {c : Net} {D b : List UInt8} {q : Nat}
end
end Go.Proofs.YtjakgjelnbpmnaaGreat
