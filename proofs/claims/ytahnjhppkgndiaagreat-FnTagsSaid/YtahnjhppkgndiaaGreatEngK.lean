import Derived.Test.YtahnjhppkgndiaaGreatListsM
import Derived.Test.YtahnjhppkgndiaaGreatEngE
/- A block absorbed: the reference. -/
set_option linter.unusedSimpArgs false
set_option linter.unusedVariables false
namespace Go.Proofs.YtahnjhppkgndiaaGreat
open Go Go.Vc
set_option maxRecDepth 10000
set_option maxHeartbeats 4000000
theorem c_spec_l08Halves (st : List UInt8) (hs : st.length = 32) : LC Tryz.prog 162 [.a (bs st)] [] (fun v hp => v = .t [.a (bs (loL st)), .a (bs (hiL st))] ∧ hp = []) := by
  refine LC_of (X := XX (fun | 7 => .one 0 (.alt (.one 1 (.one 2 (.one 3 .nil))) (.one 2 (.one 1 (.one 3 .nil)))) | _ => .nil) (fun _ => []) [15, 71, 72, 73, 79, 80, 87, 90, 91, 93, 99, 119, 137, 176, 177, 203, 204, 212, 219] 0) envOK Tryz.func162 (by kernel_rfl) (by kernel_rfl) rfl (Nat.le_of_ble_eq_true (by kernel_rfl)) ?_
  simp only [kFun, Tryz.f162, List.length_nil, List.length_cons, Nat.sub_zero, Nat.reduceSub, Nat.reduceAdd, List.nil_append, List.cons_append, List.replicate_succ, List.replicate_zero]
  simp only [XX, ↓VC, VP, TT, Nat.reduceEqDiff, reduceCtorEq, Nat.reduceAdd, Nat.reduceSub, Nat.reduceLT, Nat.reduceMul, Nat.reducePow, Nat.reduceLeDiff, Int.reduceToNat, Int.reduceLE, Int.reduceLT, Int.reducePow, hs]
  refine kLoop_of (fun i : Nat => ([.j, .p 0 0, .p 1 0, .p 2 0, .p 3 0, .p 4 0, .c (.int .i64 (i)), .j, .j, .j, .j, .j, .j, .j, .j, .j, .j, .j, .j, .j, .j, .j, .j, .j, .j, .j], [⟨true, bs st⟩, ⟨true, bs (List.replicate 16 0)⟩, ⟨true, bs (List.replicate 16 0)⟩, ⟨true, bs (fl 16 (fun _ => 0) (fun i => st.getD i 0) i)⟩, ⟨true, bs (fl 16 (fun _ => 0) (fun i => st.getD (16 + i) 0) i)⟩])) (fun i => 16 - i) (fun i => i ≤ 16) 0 (by omega)
    ⟨[0, 1, 2, 3, 4], by rw [← fl_zero, ← fl_zero]; simp [-List.reduceReplicate, LES]⟩ ?_
  intro i hi
  rcases Nat.lt_or_ge i 16 with h | h
  · have w1 : IntKind.i64.wrap (16 + (i : Int)) = ((16 + i : Nat) : Int) := by rw [wrap_i64 (by omega) (by omega)]; omega
    simp only [↓VC, VP, TT, Nat.reduceEqDiff, reduceCtorEq, Nat.reduceAdd, Nat.reduceSub, Nat.reduceLT, Nat.reduceMul, Nat.reducePow, Nat.reduceLeDiff, Int.reduceToNat, Int.reduceLE, Int.reduceLT, Int.reducePow, hs, fl_len, fl_set, h, (eq_true (by omega) : ((i : Int) < 16) = True), (eq_true (by omega) : ((i : Int) < ((16 : Nat) : Int)) = True), wrap_i64 (n := (i : Int) + 1) (by omega) (by omega), decide_true, w1, (eq_true (by omega) : ((i : Int) < ((32 : Nat) : Int)) = True), (eq_true (by omega) : (((16 + i : Nat) : Int) < ((32 : Nat) : Int)) = True), (eq_true (by omega) : (i < 32) = True), (eq_true (by omega) : (16 + i < 32) = True)]
    exact ⟨i + 1, by omega, by omega, [0, 1, 2, 3, 4], by simp [-List.reduceReplicate, LES]⟩
  · obtain rfl : i = 16 := by omega
    simp only [↓VC, VP, TT, Nat.reduceEqDiff, reduceCtorEq, Nat.reduceAdd, Nat.reduceSub, Nat.reduceLT, Nat.reduceMul, Nat.reducePow, Nat.reduceLeDiff, Int.reduceToNat, Int.reduceLE, Int.reduceLT, Int.reducePow, fl_len, (eq_false (by omega) : (((16 : Nat) : Int) < 16) = False), decide_false, and_self]
    rw [fl_done, fl_done]
    refine ⟨_, _, [], ⟨rfl, rfl⟩, ?_⟩; simp [-List.reduceReplicate, LES, loL, hiL]
theorem app_set_l {a b : List UInt8} {i : Nat} {v : UInt8} (h : i < a.length) : (a ++ b).set i v = a.set i v ++ b := by
  rw [List.set_append_left _ _ h]
theorem app_set_r {a b : List UInt8} {i n : Nat} {v : UInt8} (h : a.length = n) : (a ++ b).set (n + i) v = a ++ b.set i v := by
  subst h
  rw [List.set_append_right _ _ (by omega)]; congr 2; omega
theorem rep32 : List.replicate 32 (0 : UInt8) = List.replicate 16 0 ++ List.replicate 16 0 := by decide
theorem c_spec_l08Absorb (m : Nat) (box A pl st msg : List UInt8) (n : Nat) (hn : n ≤ 40) (hm : 256 ≤ m) (hm' : m < 512) (hb : box.length = 256) (hA : A.length = 16) (hp : pl.length = 16) (hpl : pl16 pl) (hs : st.length = 32) (hmsg : msg.length = 16) :
    LC Tryz.prog 110 [.a (cipC m box A pl n), .a (bs st), .a (bs msg)] [] (fun v hp => v = .a (bs (absL m box A pl n st msg)) ∧ hp = []) := by
  refine LC_of (X := XX (fun | 2 => .one 0 (.one 1 (.one 3 (.one 4 (.one 2 (.one 5 (.one 6 (.one 7 (.one 8 (.one 9 .nil))))))))) | 3 => .one 0 (.one 1 (.one 2 (.one 3 (.one 4 (.one 6 (.one 5 (.one 7 (.one 8 (.one 9 .nil))))))))) | 4 => .one 0 (.one 1 (.one 2 (.one 3 (.one 4 (.one 6 (.one 5 (.one 7 (.one 8 (.one 9 .nil))))))))) | _ => .nil) (fun | 2 => [(6, 9), (7, 10)] | 3 => [(8, 11)] | 4 => [(8, 12)] | _ => []) [15, 71, 72, 73, 79, 80, 87, 90, 91, 93, 99, 119, 137, 176, 177, 203, 204, 212, 219] 0) envOK Tryz.func110 (by kernel_rfl) (by kernel_rfl) rfl (Nat.le_of_ble_eq_true (by kernel_rfl)) ?_
  simp only [kFun, Tryz.f110, List.length_nil, List.length_cons, Nat.sub_zero, Nat.reduceSub, Nat.reduceAdd, List.nil_append, List.cons_append, List.replicate_succ, List.replicate_zero]
  simp only [XX, ↓VC, VP, TT, Nat.reduceEqDiff, reduceCtorEq, Nat.reduceAdd, Nat.reduceSub, Nat.reduceLT, Nat.reduceMul, Nat.reducePow, Nat.reduceLeDiff, Int.reduceToNat, Int.reduceLE, Int.reduceLT, Int.reducePow, hs, hmsg, cipC_len hb hA hp, ↓cip_all hb hA hp, ↓cip_rd hb hA hp]
  refine kCall_val (c_spec_l08Halves st hs) (by rfl) [] (by simp [CALL]) (by simp [CALL, cellsAt]) (by simp [CALL]) (by simp [okL_bs]) ?_
  simp only [CALL, ↓VC, VP, TT, Nat.reduceEqDiff, reduceCtorEq, Nat.reduceAdd, Nat.reduceSub, Nat.reduceLT, Nat.reduceMul, Nat.reducePow, Nat.reduceLeDiff, Int.reduceToNat, Int.reduceLE, Int.reduceLT, Int.reducePow, loL_len, hiL_len, hmsg]
  refine kCall_val (c_spec_l01Xor (loL st) msg (loL_len _) hmsg) (by rfl) [] (by simp [CALL]) (by simp [CALL, cellsAt]) (by simp [CALL]) (by simp [okL_bs]) ?_
  simp only [CALL, ↓VC, VP, TT, Nat.reduceEqDiff, reduceCtorEq, Nat.reduceAdd, Nat.reduceSub, Nat.reduceLT, Nat.reduceMul, Nat.reducePow, Nat.reduceLeDiff, Int.reduceToNat, Int.reduceLE, Int.reduceLT, Int.reducePow, hiL_len, hmsg]
  refine kCall_val (c_spec_l01Xor (hiL st) msg (hiL_len _) hmsg) (by rfl) [] (by simp [CALL]) (by simp [CALL, cellsAt]) (by simp [CALL]) (by simp [okL_bs]) ?_
  simp only [CALL, ↓VC, VP, TT, Nat.reduceEqDiff, reduceCtorEq, Nat.reduceAdd, Nat.reduceSub, Nat.reduceLT, Nat.reduceMul, Nat.reducePow, Nat.reduceLeDiff, Int.reduceToNat, Int.reduceLE, Int.reduceLT, Int.reducePow, xorN_len, hiL_len, ↓cip_all hb hA hp, ↓cip_rd hb hA hp]
  refine kCall_val (c_spec_l04Encipher m box A pl (hiL st) (xorN 16 (loL st) msg) n n hn hm hm' hb hA hp hpl (hiL_len _) (xorN_len _ _ _)) (by rfl) [] (by simp [CALL, instL_cip]) (by simp [CALL]) (by simp [CALL, okL_cip]) (by simp) ?_
  simp only [CALL, ↓VC, VP, TT, Nat.reduceEqDiff, reduceCtorEq, Nat.reduceAdd, Nat.reduceSub, Nat.reduceLT, Nat.reduceMul, Nat.reducePow, Nat.reduceLeDiff, Int.reduceToNat, Int.reduceLE, Int.reduceLT, Int.reducePow, xorN_len]
  refine kCall_val (c_spec_l01Xor (encL m box A pl (hiL st) (xorN 16 (loL st) msg) n) (xorN 16 (loL st) msg) (encL_len _ _ _ _ _ _ _) (xorN_len _ _ _)) (by rfl) [] (by simp [CALL]) (by simp [CALL, cellsAt]) (by simp [CALL]) (by simp [okL_bs]) ?_
  simp only [CALL, ↓VC, VP, TT, Nat.reduceEqDiff, reduceCtorEq, Nat.reduceAdd, Nat.reduceSub, Nat.reduceLT, Nat.reduceMul, Nat.reducePow, Nat.reduceLeDiff, Int.reduceToNat, Int.reduceLE, Int.reduceLT, Int.reducePow, xorN_len, ↓cip_all hb hA hp, ↓cip_rd hb hA hp]
  generalize hg : xorN 16 (encL m box A pl (hiL st) (xorN 16 (loL st) msg) n) (xorN 16 (loL st) msg) = g
  have hgl : g.length = 16 := by rw [← hg]; exact xorN_len _ _ _
  refine kCall_val (c_spec_l04Encipher m box A pl g (xorN 16 (hiL st) msg) n n hn hm hm' hb hA hp hpl hgl (xorN_len _ _ _)) (by rfl) [] (by simp [CALL, instL_cip]) (by simp [CALL]) (by simp [CALL, okL_cip]) (by simp) ?_
  simp only [CALL, ↓VC, VP, TT, Nat.reduceEqDiff, reduceCtorEq, Nat.reduceAdd, Nat.reduceSub, Nat.reduceLT, Nat.reduceMul, Nat.reducePow, Nat.reduceLeDiff, Int.reduceToNat, Int.reduceLE, Int.reduceLT, Int.reducePow, xorN_len]
  refine kCall_val (c_spec_l01Xor (encL m box A pl g (xorN 16 (hiL st) msg) n) (xorN 16 (hiL st) msg) (encL_len _ _ _ _ _ _ _) (xorN_len _ _ _)) (by rfl) [] (by simp [CALL]) (by simp [CALL, cellsAt]) (by simp [CALL]) (by simp [okL_bs]) ?_
  simp only [CALL, ↓VC, VP, TT, Nat.reduceEqDiff, reduceCtorEq, Nat.reduceAdd, Nat.reduceSub, Nat.reduceLT, Nat.reduceMul, Nat.reducePow, Nat.reduceLeDiff, Int.reduceToNat, Int.reduceLE, Int.reduceLT, Int.reducePow, xorN_len, hgl]
  generalize hh : xorN 16 (encL m box A pl g (xorN 16 (hiL st) msg) n) (xorN 16 (hiL st) msg) = h2
  have hhl : h2.length = 16 := by rw [← hh]; exact xorN_len _ _ _
  refine kLoop_of (fun i : Nat => ([.j, .j, .j, .j, .j, .j, .p 0 0, .j, .j, .j, .j, .p 1 0, .p 2 0, .p 3 0, .c (.int .i64 (i)), .j, .j, .j, .j, .j, .j, .j, .j, .j, .j, .j, .j, .j, .j, .j, .j, .j, .j, .j, .j, .j, .j, .j, .j, .j, .j, .j, .j, .j, .j, .j, .j, .j, .j, .j, .j, .j, .j, .j, .j, .j, .j, .j, .j], [⟨true, bs (List.replicate 32 0)⟩, ⟨true, bs g⟩, ⟨true, bs h2⟩, ⟨true, bs (fl 16 (fun _ => 0) (fun i => g.getD i 0) i ++ fl 16 (fun _ => 0) (fun i => h2.getD i 0) i)⟩])) (fun i => 16 - i) (fun i => i ≤ 16) 0 (by omega)
    ⟨[3, 8, 9, 10], by rw [← fl_zero, ← fl_zero, ← rep32]; simp [-List.reduceReplicate, LES, renL_cip, okL_cip]⟩ ?_
  intro i hi
  have hal : (fl 16 (fun _ => 0) (fun i => g.getD i 0) i ++ fl 16 (fun _ => 0) (fun i => h2.getD i 0) i).length = 32 := by rw [List.length_append, fl_len, fl_len]
  rcases Nat.lt_or_ge i 16 with h | h
  · have w1 : IntKind.i64.wrap (16 + (i : Int)) = ((16 + i : Nat) : Int) := by rw [wrap_i64 (by omega) (by omega)]; omega
    simp only [↓VC, VP, TT, Nat.reduceEqDiff, reduceCtorEq, Nat.reduceAdd, Nat.reduceSub, Nat.reduceLT, Nat.reduceMul, Nat.reducePow, Nat.reduceLeDiff, Int.reduceToNat, Int.reduceLE, Int.reduceLT, Int.reducePow, hgl, hhl, hal, h, (eq_true (by omega) : ((i : Int) < 16) = True), (eq_true (by omega) : ((i : Int) < ((16 : Nat) : Int)) = True), wrap_i64 (n := (i : Int) + 1) (by omega) (by omega), decide_true, w1, List.length_set, (eq_true (by omega) : ((i : Int) < ((32 : Nat) : Int)) = True), (eq_true (by omega) : (((16 + i : Nat) : Int) < ((32 : Nat) : Int)) = True), (eq_true (by omega) : (i < 32) = True), (eq_true (by omega) : (16 + i < 32) = True)]
    refine ⟨i + 1, by omega, by omega, [0, 1, 2, 3], ?_⟩
    rw [app_set_l (by rw [fl_len]; exact h), fl_set h rfl, app_set_r (fl_len _ _ _ _), fl_set h rfl]
    simp [-List.reduceReplicate, LES]
  · obtain rfl : i = 16 := by omega
    simp only [↓VC, VP, TT, Nat.reduceEqDiff, reduceCtorEq, Nat.reduceAdd, Nat.reduceSub, Nat.reduceLT, Nat.reduceMul, Nat.reducePow, Nat.reduceLeDiff, Int.reduceToNat, Int.reduceLE, Int.reduceLT, Int.reducePow, hal, (eq_false (by omega) : (((16 : Nat) : Int) < 16) = False), decide_false]
    rw [fl_done, fl_done, range_getD hgl, range_getD hhl]
    refine ⟨_, _, [], ⟨rfl, rfl⟩, ?_⟩; simp [-List.reduceReplicate, LES, absL, hg, hh]
end Go.Proofs.YtahnjhppkgndiaaGreat
