import Derived.Test.YtapagcnipdpfiaaNetG
import Derived.Test.YtapagcnipdpfiaaNetI
/- RunBack: the reference. -/
set_option linter.unusedSimpArgs false
set_option linter.unusedVariables false
namespace Go.Proofs.Ytapagcnipdpfiaa
open Go Go.Vc
set_option maxRecDepth 10000
set_option maxHeartbeats 4000000
/-- The last rounds taken back. -/
def Net.bak (c : Net) (D b : List UInt8) (q : Nat) : Nat → List UInt8
  | 0 => b
  | j + 1 => c.rbk (hfA D (q - 1 - j)) (c.bak D b q j)
theorem bak_len {c : Net} {D b : List UInt8} {q : Nat} (hb : b.length = 16) : ∀ i, (c.bak D b q i).length = 16
  | 0 => hb
  | i + 1 => rbk_len _ _ (bak_len hb i)
theorem k_spec_back (c : Net) (q cp : Nat) (D b : List UInt8) (hD : D.length = 8 * q) (hc : q ≤ cp) (hm : q ≤ 1048576) (hb : b.length = 16) (hq : q = c.n) : LC Try.prog 8 [.a c.cells, .s 0 0 q cp, .a (bs b)] [⟨false, bs D⟩] (fun v hp => v = .t [.a (bs (c.bak D b q q)), .c (.int .i64 (0))] ∧ hp = [⟨false, bs D⟩]) := by
  have key1 := c_spec_l06Code c.m c.k c.n c.box c.A c.hb c.hA q cp D hD hc hm
  rw [show codeN c.m c.box c.A c.k c.n q = 0 by unfold codeN; rw [if_pos c.is, if_pos (by omega)], show netC c.m c.box c.A c.k c.n = c.cells from rfl] at key1
  have hx : List.take (8 * q) (bs D) = bs D := List.take_of_length_le (by rw [bs_length]; omega)
  have hrl := fun i => bak_len (c := c) (D := D) (q := q) hb i
  have hq1 := c.hn1
  have w0 : IntKind.i64.wrap ((q : Int) - 1) = ((q : Int) - 1) := wrap_i64 (by omega) (by omega)
  refine LC_of (X := XX (fun | 7 => .one 0 (.one 1 (.one 2 (.one 3 (.one 4 (.one 5 (.one 6 (.one 7 .nil))))))) | _ => .nil) (fun _ => []) [25, 33, 34, 61, 62, 82, 87, 112, 119, 141] 1) envOK Try.func8 (by kernel_rfl) (by kernel_rfl) rfl (Nat.le_of_ble_eq_true (by kernel_rfl)) ?_
  simp only [kFun, Try.f8, List.length_nil, List.length_cons, Nat.sub_zero, Nat.reduceSub, Nat.reduceAdd, List.nil_append, List.cons_append, List.replicate_succ, List.replicate_zero]
  simp only [XX, ↓VC, VP, TT, List.getElem?_toArray, Nat.reduceEqDiff, reduceCtorEq, Nat.reduceAdd, Nat.reduceSub, Nat.reduceLT, Nat.reduceMul, Nat.reducePow, Nat.reduceLeDiff, Int.reduceToNat, Int.reduceLE, Int.reduceLT, Int.reducePow, n_len, ↓n_all, hb]
  refine kCall_val (key1) (by rfl) [(0, 0)] (by simp [CALL, cellsAt, tk, take_room, bs_length, bs_nil, n_inst, n_ok, ne_inst, ne_take, ne_ok, Net.bl, instL_net, okL_net, hD, hb, hx]) (by simp [CALL, cellsAt, tk, take_room, bs_length, bs_nil, n_inst, n_ok, ne_inst, ne_take, ne_ok, Net.bl, instL_net, okL_net, hD, hb, hx]) (by simp [CALL, cellsAt, tk, take_room, bs_length, bs_nil, n_inst, n_ok, ne_inst, ne_take, ne_ok, Net.bl, instL_net, okL_net, hD, hb, hx]) (by simp [okL_bs, okL_room, okL, okV, n_inst, n_ok, ne_inst, ne_take, ne_ok, Net.bl, instL_net, okL_net, hD, hb, hx]) ?_
  simp (config := { maxSteps := 2000000 }) only [CALL, ↓VC, VP, TT, List.getElem?_toArray, Nat.reduceEqDiff, reduceCtorEq, Nat.reduceAdd, Nat.reduceSub, Nat.reduceLT, Nat.reduceMul, Nat.reducePow, Nat.reduceLeDiff, Int.reduceToNat, Int.reduceLE, Int.reduceLT, Int.reducePow, instL_room, Bool.not_true, Bool.not_false, n_inst, n_len, ↓n_all, ↓n_rd, ne_len, ne_inst0, Net.bl, instL_net, bne_self_eq_false, hb, w0]
  refine kLoop_of (fun j : Nat => ([.j, .s 0 0 q cp, .j, .p 1 0, .j, .p 2 0, .p 3 0, .j, .j, .c (.int .i64 ((q : Int) - 1 - (j : Int))), .j, .j, .j, .j, .j, .j, .j, .j, .j, .j, .j, .j, .j, .j, .j, .j, .j, .j, .j, .j, .j, .j], [⟨false, bs D⟩, ⟨true, c.cells⟩, ⟨true, bs (c.bak D b q j)⟩, ⟨true, bs (List.replicate 16 0)⟩])) (fun j => q - j) (fun j => j ≤ q) 0 (by omega)
    ⟨[0, 1, 2, 3], by simp [-List.reduceReplicate, LES, n_ren, n_ok, Net.bak]⟩ ?_
  intro j hj
  rcases Nat.lt_or_ge j q with h | h
  · have e1 : (q : Int) - 1 - (j : Int) = ((q - 1 - j : Nat) : Int) := by omega
    simp only [↓VC, VP, TT, List.getElem?_toArray, Nat.reduceEqDiff, reduceCtorEq, Nat.reduceAdd, Nat.reduceSub, Nat.reduceLT, Nat.reduceMul, Nat.reducePow, Nat.reduceLeDiff, Int.reduceToNat, Int.reduceLE, Int.reduceLT, Int.reducePow, e1, n_len, ↓n_all, hrl, hfA_eq, (eq_true (by omega) : (0 ≤ ((q - 1 - j : Nat) : Int)) = True), (eq_true (by omega) : (((q - 1 - j : Nat) : Int) < ((q : Nat) : Int)) = True), (eq_true (by omega) : (q - 1 - j < q) = True), decide_true]
    try refine ⟨by omega, ?_⟩
    refine kCall_val (k_spec_rbk c (hfA D (q - 1 - j)) (c.bak D b q j) (hfA_len hD (by omega)) (hrl j)) (by rfl) [] (by simp [CALL, cellsAt, tk, take_room, bs_length, bs_nil, n_inst, n_ok, ne_inst, ne_take, ne_ok, Net.bl, instL_net, okL_net, hD, hb, hx]) (by simp [CALL, cellsAt, tk, take_room, bs_length, bs_nil, n_inst, n_ok, ne_inst, ne_take, ne_ok, Net.bl, instL_net, okL_net, hD, hb, hx]) (by simp [CALL, cellsAt, tk, take_room, bs_length, bs_nil, n_inst, n_ok, ne_inst, ne_take, ne_ok, Net.bl, instL_net, okL_net, hD, hb, hx]) (by simp [okL_bs, okL_room, okL, okV, n_inst, n_ok, ne_inst, ne_take, ne_ok, Net.bl, instL_net, okL_net, hD, hb, hx]) ?_
    simp (config := { maxSteps := 2000000 }) only [CALL, ↓VC, VP, TT, List.getElem?_toArray, Nat.reduceEqDiff, reduceCtorEq, Nat.reduceAdd, Nat.reduceSub, Nat.reduceLT, Nat.reduceMul, Nat.reducePow, Nat.reduceLeDiff, Int.reduceToNat, Int.reduceLE, Int.reduceLT, Int.reducePow, instL_room, Bool.not_true, Bool.not_false, n_inst, n_len, ↓n_all, ↓n_rd, ne_len, ne_inst0, Net.bl, instL_net, rbk_len _ _ (hrl j), hrl]
    refine ⟨j + 1, by omega, by omega, [0, 1, 2, 3], ?_⟩
    rw [wrap_i64 (by omega) (by omega), show ((q - 1 - j : Nat) : Int) - 1 = (q : Int) - 1 - ((j + 1 : Nat) : Int) by omega]
    simp [-List.reduceReplicate, LES, n_ren, n_ok, Net.bak]
  · obtain rfl : j = q := by omega
    simp only [↓VC, VP, TT, List.getElem?_toArray, Nat.reduceEqDiff, reduceCtorEq, Nat.reduceAdd, Nat.reduceSub, Nat.reduceLT, Nat.reduceMul, Nat.reducePow, Nat.reduceLeDiff, Int.reduceToNat, Int.reduceLE, Int.reduceLT, Int.reducePow, (eq_false (by omega) : (0 ≤ (j : Int) - 1 - (j : Int)) = False), decide_false, hrl]
    refine ⟨_, _, [0], ⟨rfl, rfl⟩, ?_⟩
    simp [-List.reduceReplicate, LES] <;> rfl
end Go.Proofs.Ytapagcnipdpfiaa
