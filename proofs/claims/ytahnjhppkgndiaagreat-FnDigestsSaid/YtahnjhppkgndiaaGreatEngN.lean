import Derived.Test.YtahnjhppkgndiaaGreatListsM
import Derived.Test.YtahnjhppkgndiaaGreatEngE
/- Bytes cut into blocks: the program and the reference. -/
set_option linter.unusedSimpArgs false
set_option linter.unusedVariables false
namespace Go.Proofs.YtahnjhppkgndiaaGreat
open Go Go.Vc
set_option maxRecDepth 10000
set_option maxHeartbeats 4000000
theorem c_impl_blocksOf (l : List UInt8) (c K : Nat) (hc : l.length ≤ c) (hK : l.length = 16 * K) (hm : l.length ≤ 8388608) : LC Tryz.prog 104 [.s 0 0 l.length c] [⟨false, bs l⟩]
    (Ret [⟨false, bs l⟩] (fun _ : Nat => True) fun r => (.s 1 0 K (K + r), [⟨true, bs l ++ List.replicate (16 * r) .j⟩])) := by
  refine LC_of (X := XX (fun _ => .nil) (fun _ => []) [15, 71, 72, 73, 79, 80, 87, 90, 91, 93, 99, 119, 137, 176, 177, 203, 204, 212, 219] 1) envOK Tryz.func104 (by kernel_rfl) (by kernel_rfl) rfl (Nat.le_of_ble_eq_true (by kernel_rfl)) ?_
  simp only [kFun, Tryz.f104, List.length_nil, List.length_cons, Nat.sub_zero, Nat.reduceSub, Nat.reduceAdd, List.nil_append, List.cons_append, List.replicate_succ, List.replicate_zero]
  simp only [XX, ↓VC, VP, TT, Nat.reduceEqDiff, reduceCtorEq, Nat.reduceAdd, Nat.reduceSub, Nat.reduceLT, Nat.reduceMul, Nat.reducePow, Nat.reduceLeDiff, Int.reduceToNat, Int.reduceLE, Int.reduceLT, Int.reducePow]
  refine kLoop_of (fun s : Nat × Nat => ([.s 0 0 l.length c, .j, .j, .s 1 0 s.1 (s.1 + s.2), .c (.int .i64 ((16 * s.1 : Nat))), .j, .j, .j, .j, .j, .j, .j, .j, .j, .j, .j, .j, .j, .j, .j, .j, .j, .j], [⟨false, bs l⟩, ⟨true, bs (l.take (16 * s.1)) ++ List.replicate (16 * s.2) .j⟩])) (fun s => K - s.1) (fun s => s.1 ≤ K) (0, 0) (by simp)
    ⟨[0, 1], by simp [-List.reduceReplicate, LES, bs_nil]⟩ ?_
  rintro ⟨q, r⟩ hq
  simp only at hq
  have htl : (l.take (16 * q)).length = 16 * q := by rw [List.length_take]; omega
  have hdl : ((l.drop (16 * q)).take 16).length = 16 ∨ K ≤ q := by rw [List.length_take, List.length_drop]; omega
  rcases Nat.lt_or_ge q K with h | h
  · have hdl : ((l.drop (16 * q)).take 16).length = 16 := by omega
    have w1 : IntKind.i64.wrap (((16 * q : Nat) : Int) + 16) = ((16 * (q + 1) : Nat) : Int) := by rw [wrap_i64 (by omega) (by omega)]; omega
    simp only [↓VC, VP, TT, Nat.reduceEqDiff, reduceCtorEq, Nat.reduceAdd, Nat.reduceSub, Nat.reduceLT, Nat.reduceMul, Nat.reducePow, Nat.reduceLeDiff, Int.reduceToNat, Int.reduceLE, Int.reduceLT, Int.reducePow, repl1, w1, htl, hdl, (eq_true (by omega) : (((16 * q : Nat) : Int) < (l.length : Int)) = True), decide_true, (eq_true (by omega) : (16 * q + 16 ≤ l.length) = True)]
    repeat (refine ⟨by first | omega | (simp; done) | decide, ?_⟩)
    refine fun r1 c' hc2 hc3 => ⟨(q + 1, c' - (q + 1)), by simp only; omega, by simp only; omega, [0, 3], ?_⟩
    rw [take_room (n := q * 16) (by omega), bs_append, take_more, show r1 = 16 * (c' - (q + 1)) by omega, show c' = q + 1 + (c' - (q + 1)) by omega]
    simp [-List.reduceReplicate, LES]
  · obtain rfl : q = K := by omega
    simp only [↓VC, VP, TT, Nat.reduceEqDiff, reduceCtorEq, Nat.reduceAdd, Nat.reduceSub, Nat.reduceLT, Nat.reduceMul, Nat.reducePow, Nat.reduceLeDiff, Int.reduceToNat, Int.reduceLE, Int.reduceLT, Int.reducePow, (eq_false (by omega) : (((16 * q : Nat) : Int) < (l.length : Int)) = False), decide_false]
    rw [← hK, List.take_length]
    refine ⟨_, _, [0, 1], ⟨r, trivial, rfl, rfl⟩, ?_⟩
    simp [-List.reduceReplicate, LES]
theorem c_spec_l01Blocks (l : List UInt8) (c K : Nat) (hc : l.length ≤ c) (hK : l.length = 16 * K) (hm : l.length ≤ 8388608) : LC Tryz.prog 156 [.s 0 0 l.length c] [⟨false, bs l⟩]
    (Ret [⟨false, bs l⟩] (fun _ : Nat => True) fun r => (.s 1 0 K (K + r), [⟨true, bs l ++ List.replicate (16 * r) .j⟩])) := by
  refine LC_of (X := XX (fun _ => .nil) (fun _ => []) [15, 71, 72, 73, 79, 80, 87, 90, 91, 93, 99, 119, 137, 176, 177, 203, 204, 212, 219] 1) envOK Tryz.func156 (by kernel_rfl) (by kernel_rfl) rfl (Nat.le_of_ble_eq_true (by kernel_rfl)) ?_
  simp only [kFun, Tryz.f156, List.length_nil, List.length_cons, Nat.sub_zero, Nat.reduceSub, Nat.reduceAdd, List.nil_append, List.cons_append, List.replicate_succ, List.replicate_zero]
  simp only [XX, ↓VC, VP, TT, Nat.reduceEqDiff, reduceCtorEq, Nat.reduceAdd, Nat.reduceSub, Nat.reduceLT, Nat.reduceMul, Nat.reducePow, Nat.reduceLeDiff, Int.reduceToNat, Int.reduceLE, Int.reduceLT, Int.reducePow]
  refine kLoop_of (fun s : Nat × Nat => ([.s 0 0 l.length c, .j, .j, .s 1 0 s.1 (s.1 + s.2), .c (.int .i64 ((16 * s.1 : Nat))), .j, .j, .j, .j, .j, .j, .j, .j, .j, .j, .j, .j, .j, .j, .j, .j, .j, .j, .j, .j, .j, .j, .j, .j, .j, .j, .j, .j], [⟨false, bs l⟩, ⟨true, bs (l.take (16 * s.1)) ++ List.replicate (16 * s.2) .j⟩])) (fun s => K - s.1) (fun s => s.1 ≤ K) (0, 0) (by simp)
    ⟨[0, 1], by simp [-List.reduceReplicate, LES, bs_nil]⟩ ?_
  rintro ⟨q, r⟩ hq
  simp only at hq
  have htl : (l.take (16 * q)).length = 16 * q := by rw [List.length_take]; omega
  rcases Nat.lt_or_ge q K with h | h
  · have w1 : IntKind.i64.wrap (((16 * q : Nat) : Int) + 16) = ((16 * (q + 1) : Nat) : Int) := by rw [wrap_i64 (by omega) (by omega)]; omega
    have hdl : ((l.drop (16 * q)).take 16).length = 16 := by rw [List.length_take, List.length_drop]; omega
    simp only [↓VC, VP, TT, Nat.reduceEqDiff, reduceCtorEq, Nat.reduceAdd, Nat.reduceSub, Nat.reduceLT, Nat.reduceMul, Nat.reducePow, Nat.reduceLeDiff, Int.reduceToNat, Int.reduceLE, Int.reduceLT, Int.reducePow, w1, (eq_true (by omega) : (((16 * (q + 1) : Nat) : Int) ≤ (l.length : Int)) = True), decide_true]
    refine kLoop_of (fun k : Nat => ([.s 0 0 l.length c, .j, .j, .s 1 0 q (q + r), .c (.int .i64 ((16 * q : Nat))), .p 2 0, .c (.int .i64 (k)), .j, .j, .j, .j, .j, .j, .j, .j, .j, .j, .j, .j, .j, .j, .j, .j, .j, .j, .j, .j, .j, .j, .j, .j, .j, .j], [⟨false, bs l⟩, ⟨true, bs (l.take (16 * q)) ++ List.replicate (16 * r) .j⟩, ⟨true, bs (fl 16 (fun _ => 0) (fun k => l.getD (16 * q + k) 0) k)⟩])) (fun k => 16 - k) (fun k => k ≤ 16) 0 (by omega)
      ⟨[0, 1, 2], by rw [← fl_zero]; simp [-List.reduceReplicate, LES]⟩ ?_
    intro k hk
    rcases Nat.lt_or_ge k 16 with h2 | h2
    · have w2 : IntKind.i64.wrap (((16 * q : Nat) : Int) + (k : Int)) = ((16 * q + k : Nat) : Int) := by rw [wrap_i64 (by omega) (by omega)]; omega
      simp only [↓VC, VP, TT, Nat.reduceEqDiff, reduceCtorEq, Nat.reduceAdd, Nat.reduceSub, Nat.reduceLT, Nat.reduceMul, Nat.reducePow, Nat.reduceLeDiff, Int.reduceToNat, Int.reduceLE, Int.reduceLT, Int.reducePow, w2, fl_len, fl_set, h2, (eq_true (by omega) : ((k : Int) < 16) = True), (eq_true (by omega) : ((k : Int) < ((16 : Nat) : Int)) = True), wrap_i64 (n := (k : Int) + 1) (by omega) (by omega), decide_true, (eq_true (by omega) : (((16 * q + k : Nat) : Int) < (l.length : Int)) = True), (eq_true (by omega) : (16 * q + k < l.length) = True)]
      exact ⟨k + 1, by omega, by omega, [0, 1, 2], by simp [-List.reduceReplicate, LES]⟩
    · obtain rfl : k = 16 := by omega
      simp only [↓VC, VP, TT, Nat.reduceEqDiff, reduceCtorEq, Nat.reduceAdd, Nat.reduceSub, Nat.reduceLT, Nat.reduceMul, Nat.reducePow, Nat.reduceLeDiff, Int.reduceToNat, Int.reduceLE, Int.reduceLT, Int.reducePow, (eq_false (by omega) : (((16 : Nat) : Int) < 16) = False), decide_false, fl_len, repl1, w1, htl]
      rw [fl_done, ← tab_drop (by omega)]
      repeat (refine ⟨by first | omega | (simp; done) | decide, ?_⟩)
      refine fun r1 c' hc2 hc3 => ⟨(q + 1, c' - (q + 1)), by simp only; omega, by simp only; omega, [0, 4], ?_⟩
      rw [take_room (n := q * 16) (by omega), bs_append, take_more, show r1 = 16 * (c' - (q + 1)) by omega, show c' = q + 1 + (c' - (q + 1)) by omega]
      simp [-List.reduceReplicate, LES]
  · obtain rfl : q = K := by omega
    have w1 : IntKind.i64.wrap (((16 * q : Nat) : Int) + 16) = ((16 * (q + 1) : Nat) : Int) := by rw [wrap_i64 (by omega) (by omega)]; omega
    simp only [↓VC, VP, TT, Nat.reduceEqDiff, reduceCtorEq, Nat.reduceAdd, Nat.reduceSub, Nat.reduceLT, Nat.reduceMul, Nat.reducePow, Nat.reduceLeDiff, Int.reduceToNat, Int.reduceLE, Int.reduceLT, Int.reducePow, w1, (eq_false (by omega) : (((16 * (q + 1) : Nat) : Int) ≤ (l.length : Int)) = False), decide_false]
    rw [← hK, List.take_length]
    refine ⟨_, _, [0, 1], ⟨r, trivial, rfl, rfl⟩, ?_⟩
    simp [-List.reduceReplicate, LES]
end Go.Proofs.YtahnjhppkgndiaaGreat
