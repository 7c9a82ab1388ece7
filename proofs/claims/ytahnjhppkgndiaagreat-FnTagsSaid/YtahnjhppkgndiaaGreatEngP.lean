import Derived.Test.YtahnjhppkgndiaaGreatListsM
import Derived.Test.YtahnjhppkgndiaaGreatEngE
import Derived.Test.YtahnjhppkgndiaaGreatEngK
import Derived.Test.YtahnjhppkgndiaaGreatEngI
import Derived.Test.YtahnjhppkgndiaaGreatPadM
import Derived.Test.YtahnjhppkgndiaaGreatTk
import Derived.Test.YtahnjhppkgndiaaGreatEngL
import Derived.Test.YtahnjhppkgndiaaGreatConcatB
/- Bytes cut into blocks: the program and the reference. -/
set_option linter.unusedSimpArgs false
set_option linter.unusedVariables false
namespace Go.Proofs.YtahnjhppkgndiaaGreat
open Go Go.Vc
set_option maxRecDepth 10000
set_option maxHeartbeats 4000000
theorem c_impl_blocksOf (l : List UInt8) (c K : Nat) (hc : l.length ≤ c) (hK : l.length = 16 * K) (hm : l.length ≤ 8388608) : LC Tryz.prog 104 [.s 0 0 l.length c] [⟨false, bs l⟩]
    (Ret [⟨false, bs l⟩] (fun _ : Nat => True) fun r => (.s 1 0 K (K + r), [⟨true, bs l ++ List.replicate (16 * r) .j⟩])) := by
  refine LC_of (X := XX (fun _ => .nil) (fun _ => []) [15, 71, 72, 73, 79, 80, 87, 90, 91, 93, 99, 119, 137, 176, 177, 203, 204, 212, 219] 1) envOK Tryz.func104 (by kernel_rfl) (by kernel_rfl) rfl (Nat.le_of_ble_eq_true (by kernel_rfl)) ?_
  simp only [kFun, Tryz.f104, List.length_nil, List.length_cons, Nat.sub_zero, Nat.reduceSub, Nat.reduceAdd, List.nil_append, List.cons_append, List.replicate_succ, List.replicate_zero]
  simp only [XX, ↓VC, VP, TT, Nat.reduceEqDiff, reduceCtorEq, Nat.reduceAdd, Nat.reduceSub, Nat.reduceLT, Nat.reduceMul, Nat.reducePow, Nat.reduceLeDiff, Int.reduceToNat, Int.reduceLE, Int.reduceLT, Int.reducePow]
  refine kLoop_of (fun s : Nat × Nat => ([.s 0 0 l.length c, .j, .j, .s 1 0 s.1 (s.1 + s.2), .c (.int .i64 ((16 * s.1 : Nat))), .j, .j, .j, .j, .j, .j, .j, .j, .j, .j, .j, .j, .j, .j, .j, .j, .j, .j], [⟨false, bs l⟩, ⟨true, bs (l.take (16 * s.1)) ++ List.replicate (16 * s.2) .j⟩])) (fun s => K - s.1) (fun s => s.1 ≤ K) (0, 0) (by simp)
    ⟨[0, 1], by simp [-List.reduceReplicate, LES, bs_nil]⟩ ?_
  rintro ⟨q, r⟩ hq
  simp only at hq
  have htl : (l.take (16 * q)).length = 16 * q := by rw [List.length_take]; omega
  have hdl : ((l.drop (16 * q)).take 16).length = 16 ∨ K ≤ q := by rw [List.length_take, List.length_drop]; omega
  rcases Nat.lt_or_ge q K with h | h
  · have hdl : ((l.drop (16 * q)).take 16).length = 16 := by omega
    have w1 : IntKind.i64.wrap (((16 * q : Nat) : Int) + 16) = ((16 * (q + 1) : Nat) : Int) := by rw [wrap_i64 (by omega) (by omega)]; omega
    simp only [↓VC, VP, TT, Nat.reduceEqDiff, reduceCtorEq, Nat.reduceAdd, Nat.reduceSub, Nat.reduceLT, Nat.reduceMul, Nat.reducePow, Nat.reduceLeDiff, Int.reduceToNat, Int.reduceLE, Int.reduceLT, Int.reducePow, repl1, w1, htl, hdl, (eq_true (by omega) : (((16 * q : Nat) : Int) < (l.length : Int)) = True), decide_true, (eq_true (by omega) : (16 * q + 16 ≤ l.length) = True)]
    repeat (refine ⟨by first | omega | (simp; done) | decide, ?_⟩)
    refine fun r1 c' hc2 hc3 => ⟨(q + 1, c' - (q + 1)), by simp only; omega, by simp only; omega, [0, 3], ?_⟩
    rw [take_room (n := q * 16) (by omega), bs_append, take_more, show r1 = 16 * (c' - (q + 1)) by omega, show c' = q + 1 + (c' - (q + 1)) by omega]
    simp [-List.reduceReplicate, LES]
  · obtain rfl : q = K := by omega
    simp only [↓VC, VP, TT, Nat.reduceEqDiff, reduceCtorEq, Nat.reduceAdd, Nat.reduceSub, Nat.reduceLT, Nat.reduceMul, Nat.reducePow, Nat.reduceLeDiff, Int.reduceToNat, Int.reduceLE, Int.reduceLT, Int.reducePow, (eq_false (by omega) : (((16 * q : Nat) : Int) < (l.length : Int)) = False), decide_false]
    rw [← hK, List.take_length]
    refine ⟨_, _, [0, 1], ⟨r, trivial, rfl, rfl⟩, ?_⟩
    simp [-List.reduceReplicate, LES]
theorem c_spec_l01Blocks (l : List UInt8) (c K : Nat) (hc : l.length ≤ c) (hK : l.length = 16 * K) (hm : l.length ≤ 8388608) : LC Tryz.prog 156 [.s 0 0 l.length c] [⟨false, bs l⟩]
    (Ret [⟨false, bs l⟩] (fun _ : Nat => True) fun r => (.s 1 0 K (K + r), [⟨true, bs l ++ List.replicate (16 * r) .j⟩])) := by
  refine LC_of (X := XX (fun _ => .nil) (fun _ => []) [15, 71, 72, 73, 79, 80, 87, 90, 91, 93, 99, 119, 137, 176, 177, 203, 204, 212, 219] 1) envOK Tryz.func156 (by kernel_rfl) (by kernel_rfl) rfl (Nat.le_of_ble_eq_true (by kernel_rfl)) ?_
  simp only [kFun, Tryz.f156, List.length_nil, List.length_cons, Nat.sub_zero, Nat.reduceSub, Nat.reduceAdd, List.nil_append, List.cons_append, List.replicate_succ, List.replicate_zero]
  simp only [XX, ↓VC, VP, TT, Nat.reduceEqDiff, reduceCtorEq, Nat.reduceAdd, Nat.reduceSub, Nat.reduceLT, Nat.reduceMul, Nat.reducePow, Nat.reduceLeDiff, Int.reduceToNat, Int.reduceLE, Int.reduceLT, Int.reducePow]
  refine kLoop_of (fun s : Nat × Nat => ([.s 0 0 l.length c, .j, .j, .s 1 0 s.1 (s.1 + s.2), .c (.int .i64 ((16 * s.1 : Nat))), .j, .j, .j, .j, .j, .j, .j, .j, .j, .j, .j, .j, .j, .j, .j, .j, .j, .j, .j, .j, .j, .j, .j, .j, .j, .j, .j, .j], [⟨false, bs l⟩, ⟨true, bs (l.take (16 * s.1)) ++ List.replicate (16 * s.2) .j⟩])) (fun s => K - s.1) (fun s => s.1 ≤ K) (0, 0) (by simp)
    ⟨[0, 1], by simp [-List.reduceReplicate, LES, bs_nil]⟩ ?_
  rintro ⟨q, r⟩ hq
  simp only at hq
  have htl : (l.take (16 * q)).length = 16 * q := by rw [List.length_take]; omega
  rcases Nat.lt_or_ge q K with h | h
  · have w1 : IntKind.i64.wrap (((16 * q : Nat) : Int) + 16) = ((16 * (q + 1) : Nat) : Int) := by rw [wrap_i64 (by omega) (by omega)]; omega
    have hdl : ((l.drop (16 * q)).take 16).length = 16 := by rw [List.length_take, List.length_drop]; omega
    simp only [↓VC, VP, TT, Nat.reduceEqDiff, reduceCtorEq, Nat.reduceAdd, Nat.reduceSub, Nat.reduceLT, Nat.reduceMul, Nat.reducePow, Nat.reduceLeDiff, Int.reduceToNat, Int.reduceLE, Int.reduceLT, Int.reducePow, w1, (eq_true (by omega) : (((16 * (q + 1) : Nat) : Int) ≤ (l.length : Int)) = True), decide_true]
    refine kLoop_of (fun k : Nat => ([.s 0 0 l.length c, .j, .j, .s 1 0 q (q + r), .c (.int .i64 ((16 * q : Nat))), .p 2 0, .c (.int .i64 (k)), .j, .j, .j, .j, .j, .j, .j, .j, .j, .j, .j, .j, .j, .j, .j, .j, .j, .j, .j, .j, .j, .j, .j, .j, .j, .j], [⟨false, bs l⟩, ⟨true, bs (l.take (16 * q)) ++ List.replicate (16 * r) .j⟩, ⟨true, bs (fl 16 (fun _ => 0) (fun k => l.getD (16 * q + k) 0) k)⟩])) (fun k => 16 - k) (fun k => k ≤ 16) 0 (by omega)
      ⟨[0, 1, 2], by rw [← fl_zero]; simp [-List.reduceReplicate, LES]⟩ ?_
    intro k hk
    rcases Nat.lt_or_ge k 16 with h2 | h2
    · have w2 : IntKind.i64.wrap (((16 * q : Nat) : Int) + (k : Int)) = ((16 * q + k : Nat) : Int) := by rw [wrap_i64 (by omega) (by omega)]; omega
      simp only [↓VC, VP, TT, Nat.reduceEqDiff, reduceCtorEq, Nat.reduceAdd, Nat.reduceSub, Nat.reduceLT, Nat.reduceMul, Nat.reducePow, Nat.reduceLeDiff, Int.reduceToNat, Int.reduceLE, Int.reduceLT, Int.reducePow, w2, fl_len, fl_set, h2, (eq_true (by omega) : ((k : Int) < 16) = True), (eq_true (by omega) : ((k : Int) < ((16 : Nat) : Int)) = True), wrap_i64 (n := (k : Int) + 1) (by omega) (by omega), decide_true, (eq_true (by omega) : (((16 * q + k : Nat) : Int) < (l.length : Int)) = True), (eq_true (by omega) : (16 * q + k < l.length) = True)]
      exact ⟨k + 1, by omega, by omega, [0, 1, 2], by simp [-List.reduceReplicate, LES]⟩
    · obtain rfl : k = 16 := by omega
      simp only [↓VC, VP, TT, Nat.reduceEqDiff, reduceCtorEq, Nat.reduceAdd, Nat.reduceSub, Nat.reduceLT, Nat.reduceMul, Nat.reducePow, Nat.reduceLeDiff, Int.reduceToNat, Int.reduceLE, Int.reduceLT, Int.reducePow, (eq_false (by omega) : (((16 : Nat) : Int) < 16) = False), decide_false, fl_len, repl1, w1, htl]
      rw [fl_done, ← tab_drop (by omega)]
      repeat (refine ⟨by first | omega | (simp; done) | decide, ?_⟩)
      refine fun r1 c' hc2 hc3 => ⟨(q + 1, c' - (q + 1)), by simp only; omega, by simp only; omega, [0, 4], ?_⟩
      rw [take_room (n := q * 16) (by omega), bs_append, take_more, show r1 = 16 * (c' - (q + 1)) by omega, show c' = q + 1 + (c' - (q + 1)) by omega]
      simp [-List.reduceReplicate, LES]
  · obtain rfl : q = K := by omega
    have w1 : IntKind.i64.wrap (((16 * q : Nat) : Int) + 16) = ((16 * (q + 1) : Nat) : Int) := by rw [wrap_i64 (by omega) (by omega)]; omega
    simp only [↓VC, VP, TT, Nat.reduceEqDiff, reduceCtorEq, Nat.reduceAdd, Nat.reduceSub, Nat.reduceLT, Nat.reduceMul, Nat.reducePow, Nat.reduceLeDiff, Int.reduceToNat, Int.reduceLE, Int.reduceLT, Int.reducePow, w1, (eq_false (by omega) : (((16 * (q + 1) : Nat) : Int) ≤ (l.length : Int)) = False), decide_false]
    rw [← hK, List.take_length]
    refine ⟨_, _, [0, 1], ⟨r, trivial, rfl, rfl⟩, ?_⟩
    simp [-List.reduceReplicate, LES]
end Go.Proofs.YtahnjhppkgndiaaGreat
/- Digests: the reference. -/
set_option linter.unusedSimpArgs false
set_option linter.unusedVariables false
namespace Go.Proofs.YtahnjhppkgndiaaGreat
open Go Go.Vc
set_option maxRecDepth 10000
set_option maxHeartbeats 4000000
theorem padM_16 (l : List UInt8) : (padM l).length = 16 * ((padM l).length / 16) := by
  rw [padM_len]
  have : (l.length + 1 + mz l) % 16 = 8 := by unfold mz; omega
  omega
theorem blk_load {P : List UInt8} {i : Nat} {R : List V} {k : V → Prop} (h : 16 * i + 16 ≤ P.length) : vSub (bs P ++ R) (i * 16) 16 k = k (.a (bs ((P.drop (16 * i)).take 16))) := by
  rw [vSub_appL (by rw [bs_length]; omega), vSub_bs, show i * 16 = 16 * i by omega]
  simp; omega
theorem blk_len {P : List UInt8} {i : Nat} (h : 16 * i + 16 ≤ P.length) : ((P.drop (16 * i)).take 16).length = 16 := by
  rw [List.length_take, List.length_drop]; omega
theorem c_spec_l08Of (m : Nat) (box A pl l : List UInt8) (n c : Nat) (hc : l.length ≤ c) (hl : l.length ≤ 2097152) (hn : n ≤ 40) (hm : 256 ≤ m) (hm' : m < 512) (hb : box.length = 256) (hA : A.length = 16) (hp : pl.length = 16) (hpl : pl16 pl) :
    LC Tryz.prog 96 [.a (cipC m box A pl n), .s 0 0 l.length c] [⟨false, bs l⟩] (fun v hp => v = .a (bs (digL m box A pl n (startL 32) (padM l))) ∧ hp = [⟨false, bs l⟩]) := by
  have h16 := padM_16 l
  have hml := mz_lt l
  have hpl2 := padM_len l
  refine LC_of (X := XX (fun | 5 => .one 0 (.one 1 (.one 2 (.one 3 (.one 4 (.one 5 (.one 6 (.one 7 .nil))))))) | _ => .nil) (fun _ => []) [15, 71, 72, 73, 79, 80, 87, 90, 91, 93, 99, 119, 137, 176, 177, 203, 204, 212, 219] 1) envOK Tryz.func96 (by kernel_rfl) (by kernel_rfl) rfl (Nat.le_of_ble_eq_true (by kernel_rfl)) ?_
  simp only [kFun, Tryz.f96, List.length_nil, List.length_cons, Nat.sub_zero, Nat.reduceSub, Nat.reduceAdd, List.nil_append, List.cons_append, List.replicate_succ, List.replicate_zero]
  simp only [XX, ↓VC, VP, TT, Nat.reduceEqDiff, reduceCtorEq, Nat.reduceAdd, Nat.reduceSub, Nat.reduceLT, Nat.reduceMul, Nat.reducePow, Nat.reduceLeDiff, Int.reduceToNat, Int.reduceLE, Int.reduceLT, Int.reducePow, cipC_len hb hA hp, ↓cip_all hb hA hp]
  refine kCall_Ret (c_spec_l08Pad l c hc hl) (by rfl) [(0, 0)] (by simp [CALL]) (by simp [CALL, cellsAt]) (by simp [CALL]) (by simp [okL_bs]) (by simp) fun r _ => ?_
  simp only [CALL, ↓VC, VP, TT, Nat.reduceEqDiff, reduceCtorEq, Nat.reduceAdd, Nat.reduceSub, Nat.reduceLT, Nat.reduceMul, Nat.reducePow, Nat.reduceLeDiff, Int.reduceToNat, Int.reduceLE, Int.reduceLT, Int.reducePow, instL_room]
  refine kCall_Ret (c_spec_l01Blocks (padM l) ((padM l).length + r) ((padM l).length / 16) (by omega) h16 (by omega)) (by rfl) [(3, 0)] (by simp [CALL]) (by simp [CALL, cellsAt, bs_length]) (by simp [CALL]) (by simp [okL_bs]) (by simp) fun r2 _ => ?_
  simp only [CALL, ↓VC, VP, TT, Nat.reduceEqDiff, reduceCtorEq, Nat.reduceAdd, Nat.reduceSub, Nat.reduceLT, Nat.reduceMul, Nat.reducePow, Nat.reduceLeDiff, Int.reduceToNat, Int.reduceLE, Int.reduceLT, Int.reducePow, instL_room]
  refine kCall_val (c_spec_l08Start) (by rfl) [] (by simp [CALL]) (by simp [CALL, cellsAt]) (by simp [CALL]) (by simp [okL_bs]) ?_
  simp only [CALL, ↓VC, VP, TT, Nat.reduceEqDiff, reduceCtorEq, Nat.reduceAdd, Nat.reduceSub, Nat.reduceLT, Nat.reduceMul, Nat.reducePow, Nat.reduceLeDiff, Int.reduceToNat, Int.reduceLE, Int.reduceLT, Int.reducePow, startL_len]
  generalize hK : (padM l).length / 16 = K at *
  refine kLoop_of (fun i : Nat => ([.j, .j, .p 1 0, .j, .p 2 0, .s 3 0 K (K + r2), .p 4 0, .c (.int .i64 (i)), .j, .j, .j, .j, .j, .j, .j, .j, .j, .j, .j, .j, .j, .j, .j, .j, .j, .j], [⟨false, bs l⟩, ⟨true, cipC m box A pl n⟩, ⟨true, bs (List.replicate 32 0)⟩, ⟨true, bs (padM l) ++ List.replicate (16 * r2) .j⟩, ⟨true, bs (digP (absL m box A pl n) (startL 32) (padM l) i)⟩])) (fun i => K - i) (fun i => i ≤ K) 0 (by omega)
    ⟨[0, 1, 2, 4, 5], by simp [-List.reduceReplicate, LES, renL_cip, okL_cip, digP]⟩ ?_
  intro i hi
  have hdl := digP_len (m := m) (box := box) (A := A) (pl := pl) (n := n) (l := padM l) (startL_len 32) i
  rcases Nat.lt_or_ge i K with h | h
  · simp only [↓VC, VP, TT, Nat.reduceEqDiff, reduceCtorEq, Nat.reduceAdd, Nat.reduceSub, Nat.reduceLT, Nat.reduceMul, Nat.reducePow, Nat.reduceLeDiff, Int.reduceToNat, Int.reduceLE, Int.reduceLT, Int.reducePow, hdl, (eq_true (by omega) : ((i : Int) < (K : Int)) = True), decide_true, ↓cip_all hb hA hp, ↓blk_load (P := padM l) (i := i) (by omega)]
    refine kCall_val (c_spec_l08Absorb m box A pl (digP (absL m box A pl n) (startL 32) (padM l) i) (((padM l).drop (16 * i)).take 16) n hn hm hm' hb hA hp hpl hdl (blk_len (by omega))) (by rfl) [] (by simp [CALL, instL_cip]) (by simp [CALL]) (by simp [CALL, okL_cip]) (by simp) ?_
    simp only [CALL, ↓VC, VP, TT, Nat.reduceEqDiff, reduceCtorEq, Nat.reduceAdd, Nat.reduceSub, Nat.reduceLT, Nat.reduceMul, Nat.reducePow, Nat.reduceLeDiff, Int.reduceToNat, Int.reduceLE, Int.reduceLT, Int.reducePow, absL_len, hdl]
    refine ⟨i + 1, by omega, by omega, [0, 1, 2, 3, 4], ?_⟩
    rw [wrap_i64 (by omega) (by omega)]
    simp [-List.reduceReplicate, LES, renL_cip, okL_cip, digP]
  · obtain rfl : i = K := by omega
    simp only [↓VC, VP, TT, Nat.reduceEqDiff, reduceCtorEq, Nat.reduceAdd, Nat.reduceSub, Nat.reduceLT, Nat.reduceMul, Nat.reducePow, Nat.reduceLeDiff, Int.reduceToNat, Int.reduceLE, Int.reduceLT, Int.reducePow, hdl, (eq_false (by omega) : ((i : Int) < (i : Int)) = False), decide_false]
    refine ⟨_, _, [0], ⟨rfl, rfl⟩, ?_⟩
    simp [-List.reduceReplicate, LES, digL, hK]
end Go.Proofs.YtahnjhppkgndiaaGreat
/- Digests of parts by the program's engine. -/
set_option linter.unusedSimpArgs false
set_option linter.unusedVariables false
namespace Go.Proofs.YtahnjhppkgndiaaGreat
open Go Go.Vc
set_option maxRecDepth 10000
set_option maxHeartbeats 4000000
theorem c_digest1 (m : Nat) (box bb pl bp A T2 : List UInt8) (n : Nat) (l1 : List UInt8) (c1 : Nat) (hc1 : l1.length ≤ c1) (htot : l1.length ≤ 2097152) (hn : n ≤ 40) (hE : EngL box bb pl bp) (hA : A.length = 16) (hpl : pl16 pl) :
    LC Tryz.prog 94 [.p 0 0, .s 3 0 1 1] [⟨false, engC box bb pl bp 1 2 n⟩, ⟨false, bs (tabL m A)⟩, ⟨false, bs T2⟩, ⟨false, [.s 4 0 l1.length c1]⟩, ⟨false, bs l1⟩] (fun v hp => v = .a (bs (digL m box A pl n (startL 32) (padM (l1)))) ∧ hp = [⟨false, engC box bb pl bp 1 2 n⟩, ⟨false, bs (tabL m A)⟩, ⟨false, bs T2⟩, ⟨false, [.s 4 0 l1.length c1]⟩, ⟨false, bs l1⟩]) := by
  have hL : (l1).length = l1.length := by simp; try omega
  refine LC_of (X := XX (fun _ => .nil) (fun _ => []) [15, 71, 72, 73, 79, 80, 87, 90, 91, 93, 99, 119, 137, 176, 177, 203, 204, 212, 219] 5) envOK Tryz.func94 (by kernel_rfl) (by kernel_rfl) rfl (Nat.le_of_ble_eq_true (by kernel_rfl)) ?_
  simp only [kFun, Tryz.f94, List.length_nil, List.length_cons, Nat.sub_zero, Nat.reduceSub, Nat.reduceAdd, List.nil_append, List.cons_append, List.replicate_succ, List.replicate_zero]
  simp only [XX, ↓VC, VP, TT, Nat.reduceEqDiff, reduceCtorEq, Nat.reduceAdd, Nat.reduceSub, Nat.reduceLT, Nat.reduceMul, Nat.reducePow, Nat.reduceLeDiff, Int.reduceToNat, Int.reduceLE, Int.reduceLT, Int.reducePow]
  refine kCall_val (c_impl_StartOfDigest) (by rfl) [] (by simp [CALL]) (by simp [CALL, cellsAt]) (by simp [CALL]) (by simp [okL_bs]) ?_
  simp only [CALL, ↓VC, VP, TT, Nat.reduceEqDiff, reduceCtorEq, Nat.reduceAdd, Nat.reduceSub, Nat.reduceLT, Nat.reduceMul, Nat.reducePow, Nat.reduceLeDiff, Int.reduceToNat, Int.reduceLE, Int.reduceLT, Int.reducePow, startL_len]
  refine kCall_Ret (c_Concat1 l1 c1 hc1 (by omega)) (by rfl) [(3, 0), (4, 0)] (by simp [CALL]) (by simp [CALL, cellsAt]) (by simp [CALL]) (by simp [okL_bs, okL, okV]) (by simp) fun r _ => ?_
  simp only [CALL, ↓VC, VP, TT, Nat.reduceEqDiff, reduceCtorEq, Nat.reduceAdd, Nat.reduceSub, Nat.reduceLT, Nat.reduceMul, Nat.reducePow, Nat.reduceLeDiff, Int.reduceToNat, Int.reduceLE, Int.reduceLT, Int.reducePow, instL_room]
  have h16 := padM_16 l1
  have hml := mz_lt l1
  have hpl2 := padM_len l1
  refine kCall_Ret (c_impl_padMessage l1 (l1.length + r) (by omega) (by omega)) (by rfl) [(7, 0)] (by simp [CALL]) (by simp [CALL, cellsAt, bs_length]) (by simp [CALL]) (by simp [okL_bs]) (by simp) fun r1 _ => ?_
  simp only [CALL, ↓VC, VP, TT, Nat.reduceEqDiff, reduceCtorEq, Nat.reduceAdd, Nat.reduceSub, Nat.reduceLT, Nat.reduceMul, Nat.reducePow, Nat.reduceLeDiff, Int.reduceToNat, Int.reduceLE, Int.reduceLT, Int.reducePow, instL_room]
  refine kCall_Ret (c_impl_blocksOf (padM l1) ((padM l1).length + r1) ((padM l1).length / 16) (by omega) h16 (by omega)) (by rfl) [(8, 0)] (by simp [CALL]) (by simp [CALL, cellsAt, bs_length]) (by simp [CALL]) (by simp [okL_bs]) (by simp) fun r2 _ => ?_
  simp only [CALL, ↓VC, VP, TT, Nat.reduceEqDiff, reduceCtorEq, Nat.reduceAdd, Nat.reduceSub, Nat.reduceLT, Nat.reduceMul, Nat.reducePow, Nat.reduceLeDiff, Int.reduceToNat, Int.reduceLE, Int.reduceLT, Int.reducePow, instL_room]
  generalize hK : (padM l1).length / 16 = K at *
  refine kLoop_of (fun i : Nat => ([.p 0 0, .j, .j, .j, .p 5 0, .p 6 0, .j, .j, .j, .j, .j, .j, .s 7 0 K (K + r2), .c (.int .i64 (K)), .c (.int .i64 (i)), .j, .j, .j, .j, .j, .j, .j, .j, .j], [⟨false, engC box bb pl bp 1 2 n⟩, ⟨false, bs (tabL m A)⟩, ⟨false, bs T2⟩, ⟨false, [.s 4 0 l1.length c1]⟩, ⟨false, bs l1⟩, ⟨true, bs (List.replicate 32 0)⟩, ⟨true, bs (digP (absL m box A pl n) (startL 32) (padM l1) i)⟩, ⟨true, bs (padM l1) ++ List.replicate (16 * r2) .j⟩])) (fun i => K - i) (fun i => i ≤ K) 0 (by omega)
    ⟨[0, 1, 2, 3, 4, 5, 6, 9], by simp [-List.reduceReplicate, LES, renL_eng, okL_eng, digP]⟩ ?_
  intro i hi
  have hdl := digP_len (m := m) (box := box) (A := A) (pl := pl) (n := n) (l := padM l1) (startL_len 32) i
  rcases Nat.lt_or_ge i K with h | h
  · have hbl := blk_len (P := padM l1) (i := i) (by omega)
    simp only [↓VC, VP, TT, Nat.reduceEqDiff, reduceCtorEq, Nat.reduceAdd, Nat.reduceSub, Nat.reduceLT, Nat.reduceMul, Nat.reducePow, Nat.reduceLeDiff, Int.reduceToNat, Int.reduceLE, Int.reduceLT, Int.reducePow, hdl, hbl, (eq_true (by omega) : ((i : Int) < (K : Int)) = True), decide_true, ↓blk_load (P := padM l1) (i := i) (by omega)]
    refine kCall_val (c_absorb m box bb pl bp A T2 (digP (absL m box A pl n) (startL 32) (padM l1) i) (((padM l1).drop (16 * i)).take 16) n hn hE hA hpl hdl hbl) (by rfl) [(0, 0), (1, 0), (2, 0)] (by simp [CALL]) (by simp [CALL, cellsAt, instL_eng]) (by simp [CALL]) (by simp [okL_bs, okL_eng]) ?_
    simp only [CALL, ↓VC, VP, TT, Nat.reduceEqDiff, reduceCtorEq, Nat.reduceAdd, Nat.reduceSub, Nat.reduceLT, Nat.reduceMul, Nat.reducePow, Nat.reduceLeDiff, Int.reduceToNat, Int.reduceLE, Int.reduceLT, Int.reducePow, absL_len, hdl]
    refine ⟨i + 1, by omega, by omega, [0, 1, 2, 3, 4, 5, 6, 7], ?_⟩
    rw [wrap_i64 (by omega) (by omega)]
    simp [-List.reduceReplicate, LES, renL_eng, okL_eng, digP]
  · obtain rfl : i = K := by omega
    simp only [↓VC, VP, TT, Nat.reduceEqDiff, reduceCtorEq, Nat.reduceAdd, Nat.reduceSub, Nat.reduceLT, Nat.reduceMul, Nat.reducePow, Nat.reduceLeDiff, Int.reduceToNat, Int.reduceLE, Int.reduceLT, Int.reducePow, hdl, (eq_false (by omega) : ((i : Int) < (i : Int)) = False), decide_false]
    refine ⟨_, _, [0, 1, 2, 3, 4], ⟨rfl, rfl⟩, ?_⟩
    simp [-List.reduceReplicate, LES, renL_eng, okL_eng, digL, hK]
theorem c_digest2 (m : Nat) (box bb pl bp A T2 : List UInt8) (n : Nat) (l1 l2 : List UInt8) (c1 c2 : Nat) (hc1 : l1.length ≤ c1) (hc2 : l2.length ≤ c2) (htot : l1.length + l2.length ≤ 2097152) (hn : n ≤ 40) (hE : EngL box bb pl bp) (hA : A.length = 16) (hpl : pl16 pl) :
    LC Tryz.prog 94 [.p 0 0, .s 3 0 2 2] [⟨false, engC box bb pl bp 1 2 n⟩, ⟨false, bs (tabL m A)⟩, ⟨false, bs T2⟩, ⟨false, [.s 4 0 l1.length c1, .s 5 0 l2.length c2]⟩, ⟨false, bs l1⟩, ⟨false, bs l2⟩] (fun v hp => v = .a (bs (digL m box A pl n (startL 32) (padM (l1 ++ l2)))) ∧ hp = [⟨false, engC box bb pl bp 1 2 n⟩, ⟨false, bs (tabL m A)⟩, ⟨false, bs T2⟩, ⟨false, [.s 4 0 l1.length c1, .s 5 0 l2.length c2]⟩, ⟨false, bs l1⟩, ⟨false, bs l2⟩]) := by
  have hL : (l1 ++ l2).length = l1.length + l2.length := by simp; try omega
  refine LC_of (X := XX (fun _ => .nil) (fun _ => []) [15, 71, 72, 73, 79, 80, 87, 90, 91, 93, 99, 119, 137, 176, 177, 203, 204, 212, 219] 6) envOK Tryz.func94 (by kernel_rfl) (by kernel_rfl) rfl (Nat.le_of_ble_eq_true (by kernel_rfl)) ?_
  simp only [kFun, Tryz.f94, List.length_nil, List.length_cons, Nat.sub_zero, Nat.reduceSub, Nat.reduceAdd, List.nil_append, List.cons_append, List.replicate_succ, List.replicate_zero]
  simp only [XX, ↓VC, VP, TT, Nat.reduceEqDiff, reduceCtorEq, Nat.reduceAdd, Nat.reduceSub, Nat.reduceLT, Nat.reduceMul, Nat.reducePow, Nat.reduceLeDiff, Int.reduceToNat, Int.reduceLE, Int.reduceLT, Int.reducePow]
  refine kCall_val (c_impl_StartOfDigest) (by rfl) [] (by simp [CALL]) (by simp [CALL, cellsAt]) (by simp [CALL]) (by simp [okL_bs]) ?_
  simp only [CALL, ↓VC, VP, TT, Nat.reduceEqDiff, reduceCtorEq, Nat.reduceAdd, Nat.reduceSub, Nat.reduceLT, Nat.reduceMul, Nat.reducePow, Nat.reduceLeDiff, Int.reduceToNat, Int.reduceLE, Int.reduceLT, Int.reducePow, startL_len]
  refine kCall_Ret (c_Concat2 l1 l2 c1 c2 hc1 hc2 (by omega)) (by rfl) [(3, 0), (4, 0), (5, 0)] (by simp [CALL]) (by simp [CALL, cellsAt]) (by simp [CALL]) (by simp [okL_bs, okL, okV]) (by simp) fun r _ => ?_
  generalize hgL : l1 ++ l2 = L at *
  simp only [CALL, ↓VC, VP, TT, Nat.reduceEqDiff, reduceCtorEq, Nat.reduceAdd, Nat.reduceSub, Nat.reduceLT, Nat.reduceMul, Nat.reducePow, Nat.reduceLeDiff, Int.reduceToNat, Int.reduceLE, Int.reduceLT, Int.reducePow, instL_room]
  have h16 := padM_16 L
  have hml := mz_lt L
  have hpl2 := padM_len L
  refine kCall_Ret (c_impl_padMessage L (L.length + r) (by omega) (by omega)) (by rfl) [(8, 0)] (by simp [CALL]) (by simp [CALL, cellsAt, bs_length]) (by simp [CALL]) (by simp [okL_bs]) (by simp) fun r1 _ => ?_
  simp only [CALL, ↓VC, VP, TT, Nat.reduceEqDiff, reduceCtorEq, Nat.reduceAdd, Nat.reduceSub, Nat.reduceLT, Nat.reduceMul, Nat.reducePow, Nat.reduceLeDiff, Int.reduceToNat, Int.reduceLE, Int.reduceLT, Int.reducePow, instL_room]
  refine kCall_Ret (c_impl_blocksOf (padM L) ((padM L).length + r1) ((padM L).length / 16) (by omega) h16 (by omega)) (by rfl) [(9, 0)] (by simp [CALL]) (by simp [CALL, cellsAt, bs_length]) (by simp [CALL]) (by simp [okL_bs]) (by simp) fun r2 _ => ?_
  simp only [CALL, ↓VC, VP, TT, Nat.reduceEqDiff, reduceCtorEq, Nat.reduceAdd, Nat.reduceSub, Nat.reduceLT, Nat.reduceMul, Nat.reducePow, Nat.reduceLeDiff, Int.reduceToNat, Int.reduceLE, Int.reduceLT, Int.reducePow, instL_room]
  generalize hK : (padM L).length / 16 = K at *
  refine kLoop_of (fun i : Nat => ([.p 0 0, .j, .j, .j, .p 6 0, .p 7 0, .j, .j, .j, .j, .j, .j, .s 8 0 K (K + r2), .c (.int .i64 (K)), .c (.int .i64 (i)), .j, .j, .j, .j, .j, .j, .j, .j, .j], [⟨false, engC box bb pl bp 1 2 n⟩, ⟨false, bs (tabL m A)⟩, ⟨false, bs T2⟩, ⟨false, [.s 4 0 l1.length c1, .s 5 0 l2.length c2]⟩, ⟨false, bs l1⟩, ⟨false, bs l2⟩, ⟨true, bs (List.replicate 32 0)⟩, ⟨true, bs (digP (absL m box A pl n) (startL 32) (padM L) i)⟩, ⟨true, bs (padM L) ++ List.replicate (16 * r2) .j⟩])) (fun i => K - i) (fun i => i ≤ K) 0 (by omega)
    ⟨[0, 1, 2, 3, 4, 5, 6, 7, 10], by simp [-List.reduceReplicate, LES, renL_eng, okL_eng, digP]⟩ ?_
  intro i hi
  have hdl := digP_len (m := m) (box := box) (A := A) (pl := pl) (n := n) (l := padM L) (startL_len 32) i
  rcases Nat.lt_or_ge i K with h | h
  · have hbl := blk_len (P := padM L) (i := i) (by omega)
    simp only [↓VC, VP, TT, Nat.reduceEqDiff, reduceCtorEq, Nat.reduceAdd, Nat.reduceSub, Nat.reduceLT, Nat.reduceMul, Nat.reducePow, Nat.reduceLeDiff, Int.reduceToNat, Int.reduceLE, Int.reduceLT, Int.reducePow, hdl, hbl, (eq_true (by omega) : ((i : Int) < (K : Int)) = True), decide_true, ↓blk_load (P := padM L) (i := i) (by omega)]
    refine kCall_val (c_absorb m box bb pl bp A T2 (digP (absL m box A pl n) (startL 32) (padM L) i) (((padM L).drop (16 * i)).take 16) n hn hE hA hpl hdl hbl) (by rfl) [(0, 0), (1, 0), (2, 0)] (by simp [CALL]) (by simp [CALL, cellsAt, instL_eng]) (by simp [CALL]) (by simp [okL_bs, okL_eng]) ?_
    simp only [CALL, ↓VC, VP, TT, Nat.reduceEqDiff, reduceCtorEq, Nat.reduceAdd, Nat.reduceSub, Nat.reduceLT, Nat.reduceMul, Nat.reducePow, Nat.reduceLeDiff, Int.reduceToNat, Int.reduceLE, Int.reduceLT, Int.reducePow, absL_len, hdl]
    refine ⟨i + 1, by omega, by omega, [0, 1, 2, 3, 4, 5, 6, 7, 8], ?_⟩
    rw [wrap_i64 (by omega) (by omega)]
    simp [-List.reduceReplicate, LES, renL_eng, okL_eng, digP]
  · obtain rfl : i = K := by omega
    simp only [↓VC, VP, TT, Nat.reduceEqDiff, reduceCtorEq, Nat.reduceAdd, Nat.reduceSub, Nat.reduceLT, Nat.reduceMul, Nat.reducePow, Nat.reduceLeDiff, Int.reduceToNat, Int.reduceLE, Int.reduceLT, Int.reducePow, hdl, (eq_false (by omega) : ((i : Int) < (i : Int)) = False), decide_false]
    refine ⟨_, _, [0, 1, 2, 3, 4, 5], ⟨rfl, rfl⟩, ?_⟩
    simp [-List.reduceReplicate, LES, renL_eng, okL_eng, digL, hK]
end Go.Proofs.YtahnjhppkgndiaaGreat
/- Leaves, nodes, digests of the house: the program and the reference. -/
set_option linter.unusedSimpArgs false
set_option linter.unusedVariables false
namespace Go.Proofs.YtahnjhppkgndiaaGreat
open Go Go.Vc
set_option maxRecDepth 10000
set_option maxHeartbeats 4000000
/-- The engine of the house, at some handle. -/
def hEng (h1 h2 : Nat) : List V := engC houseB (invL 256 houseB 256) houseP (invL 16 houseP 16) h1 h2 8
def hT1 : List UInt8 := tabL 285 houseA
def hT2 : List UInt8 := tabL 285 (invM 285 houseA (unP 4)).2
def hB (own : Bool) : List Blk := [⟨own, hEng 1 2⟩, ⟨own, bs hT1⟩, ⟨own, bs hT2⟩]
end Go.Proofs.YtahnjhppkgndiaaGreat
/- Roots of lists of digests: the program and the reference. -/
set_option linter.unusedSimpArgs false
set_option linter.unusedVariables false
namespace Go.Proofs.YtahnjhppkgndiaaGreat
open Go Go.Vc
set_option maxRecDepth 10000
set_option maxHeartbeats 4000000
theorem splB0 {l v : List UInt8} (h : v.length = l.length) : splB l 0 v = v := by simp [splB, h]
end Go.Proofs.YtahnjhppkgndiaaGreat
/- The laws' own helpers over slices of digests. -/
set_option linter.unusedSimpArgs false
set_option linter.unusedVariables false
namespace Go.Proofs.YtahnjhppkgndiaaGreat
open Go Go.Vc
set_option maxRecDepth 10000
set_option maxHeartbeats 4000000
theorem flatZ (k : Nat) : ∀ n, (List.replicate n (bs (List.replicate k 0))).flatten = bs (List.replicate (k * n) 0)
  | 0 => by simp [bs_nil]
  | n + 1 => by rw [List.replicate_succ, List.flatten_cons, flatZ k n, bs_append, List.replicate_append_replicate, show k + k * n = k * (n + 1) by rw [Nat.mul_succ]; omega]
/-- The digest at a place. -/
def dgA (D : List UInt8) (i : Nat) : List UInt8 := (D.drop (32 * i)).take 32
theorem dgA_len {D : List UInt8} {i n : Nat} (hD : D.length = 32 * n) (h : i < n) : (dgA D i).length = 32 := by
  unfold dgA; rw [List.length_take, List.length_drop]; omega
theorem dgA_eq (D : List UInt8) (i : Nat) : List.take 32 (List.drop (i * 32) D) = dgA D i := by rw [Nat.mul_comm]; rfl
end Go.Proofs.YtahnjhppkgndiaaGreat
/- Roots of lists: the program and the reference hand back the same. -/
set_option linter.unusedSimpArgs false
set_option linter.unusedVariables false
namespace Go.Proofs.YtahnjhppkgndiaaGreat
open Go Go.Vc
set_option maxRecDepth 10000
set_option maxHeartbeats 4000000
end Go.Proofs.YtahnjhppkgndiaaGreat
