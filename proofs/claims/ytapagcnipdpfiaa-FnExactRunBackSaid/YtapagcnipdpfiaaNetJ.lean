import Derived.Test.YtapagcnipdpfiaaNetF
/- Networks: the program's rounds back. -/
set_option linter.unusedSimpArgs false
set_option linter.unusedVariables false
namespace Go.Proofs.Ytapagcnipdpfiaa
open Go Go.Vc
set_option maxRecDepth 10000
set_option maxHeartbeats 4000000
theorem k_impl_fb (c : Net) (key y : List UInt8) (hk : key.length = 8) (hy : y.length = 8) : LC Try.prog 111 [.p 0 0, .a (bs key), .a (bs y)] (c.bl false) (fun v hp => v = .a (bs (c.fb key y)) ∧ hp = c.bl false) := by
  have hsc := scat_len y
  unfold Net.bl
  refine LC_of (X := XX (fun | 7 => .one 0 (.one 1 (.one 2 (.one 3 (.one 4 (.one 5 .nil))))) | 11 => .one 0 (.one 1 (.one 2 (.one 3 (.one 4 (.one 5 (.one 6 (.one 7 (.one 8 (.one 9 (.one 10 (.one 11 (.one 12 (.one 13 (.one 14 .nil)))))))))))))) | _ => .nil) (fun _ => []) [25, 33, 34, 61, 62, 82, 87, 112, 119, 141] 3) envOK Try.func111 (by kernel_rfl) (by kernel_rfl) rfl (Nat.le_of_ble_eq_true (by kernel_rfl)) ?_
  simp only [kFun, Try.f111, List.length_nil, List.length_cons, Nat.sub_zero, Nat.reduceSub, Nat.reduceAdd, List.nil_append, List.cons_append, List.replicate_succ, List.replicate_zero]
  simp only [XX, ↓VC, VP, TT, List.getElem?_toArray, Nat.reduceEqDiff, reduceCtorEq, Nat.reduceAdd, Nat.reduceSub, Nat.reduceLT, Nat.reduceMul, Nat.reducePow, Nat.reduceLeDiff, Int.reduceToNat, Int.reduceLE, Int.reduceLT, Int.reducePow, hk, hy]
  refine kLoop_of (fun i : Nat => ([.p 0 0, .j, .j, .j, .p 3 0, .p 4 0, .p 5 0, .p 6 0, .j, .j, .j, .c (.int .i64 (i)), .j, .j, .j, .j, .j, .j, .j, .j, .j, .j, .j, .j, .j, .j, .j, .j, .j, .j, .j, .j, .j, .j, .j, .j, .j, .j, .j, .j, .j, .j, .j, .j, .j, .j, .j], [⟨false, c.eng 1 2⟩, ⟨false, bs c.t1⟩, ⟨false, bs c.t2⟩, ⟨true, bs key⟩, ⟨true, bs y⟩, ⟨true, bs (List.replicate 8 0)⟩, ⟨true, bs (scat y i)⟩])) (fun i => 8 - i) (fun i => i ≤ 8) 0 (by omega)
    ⟨[0, 1, 2, 3, 4, 5, 6], by simp [-List.reduceReplicate, LES, ne_ren, ne_ok, scat]⟩ ?_
  intro i hi
  rcases Nat.lt_or_ge i 8 with h | h
  · have w1 : IntKind.i64.wrap (3 * (i : Int)) = ((3 * i : Nat) : Int) := by rw [wrap_i64 (by omega) (by omega)]; omega
    have w2 : Int.tmod ((3 * i : Nat) : Int) 8 = ((3 * i % 8 : Nat) : Int) := rfl
    simp only [↓VC, VP, TT, List.getElem?_toArray, Nat.reduceEqDiff, reduceCtorEq, Nat.reduceAdd, Nat.reduceSub, Nat.reduceLT, Nat.reduceMul, Nat.reducePow, Nat.reduceLeDiff, Int.reduceToNat, Int.reduceLE, Int.reduceLT, Int.reducePow, hy, hsc, h, (eq_true (by omega) : ((i : Int) < 8) = True), (eq_true (by omega) : ((i : Int) < ((8 : Nat) : Int)) = True), wrap_i64 (n := (i : Int) + 1) (by omega) (by omega), decide_true, h, w1, w2, (eq_true (by omega) : (((3 * i % 8 : Nat) : Int) < ((8 : Nat) : Int)) = True), (eq_true (by omega) : (3 * i % 8 < 8) = True)]
    try refine ⟨by decide, ?_⟩
    exact ⟨i + 1, by omega, by omega, [0, 1, 2, 3, 4, 5, 6], by simp [-List.reduceReplicate, LES, ne_ren, ne_ok, scat]⟩
  · obtain rfl : i = 8 := by omega
    simp only [↓VC, VP, TT, List.getElem?_toArray, Nat.reduceEqDiff, reduceCtorEq, Nat.reduceAdd, Nat.reduceSub, Nat.reduceLT, Nat.reduceMul, Nat.reducePow, Nat.reduceLeDiff, Int.reduceToNat, Int.reduceLE, Int.reduceLT, Int.reducePow, hsc, (eq_false (by omega) : (((8 : Nat) : Int) < 8) = False), decide_false, ↓ne_mixB]
    refine kCall_M (c_mix c.m (backL c.m c.A) (scat y 8) 8 2 rfl (by omega) (scat_len y 8)) (by rfl) [(2, 0), (6, 0)] (by simp [CALL, cellsAt, tk, take_room, bs_length, bs_nil, n_inst, n_ok, ne_inst, ne_take, ne_ok, Net.bl, t2_take, t1_take, mixL_len, scat_len]) (by simp [CALL, cellsAt, tk, take_room, bs_length, bs_nil, n_inst, n_ok, ne_inst, ne_take, ne_ok, Net.bl, t2_take, t1_take, mixL_len, scat_len]) (by simp) (by simp [CALL, cellsAt, tk, take_room, bs_length, bs_nil, n_inst, n_ok, ne_inst, ne_take, ne_ok, Net.bl, t2_take, t1_take, mixL_len, scat_len]) (by simp [okL_bs, okL_room, okL, okV, n_inst, n_ok, ne_inst, ne_take, ne_ok, Net.bl, t2_take, t1_take, mixL_len, scat_len]) (by intro x _; simp [keepR, bs_length, n_inst, n_ok, ne_inst, ne_take, ne_ok, Net.bl, t2_take, t1_take, mixL_len, scat_len]) (by simp [CALL, cellsAt, tk, take_room, bs_length, bs_nil, n_inst, n_ok, ne_inst, ne_take, ne_ok, Net.bl, t2_take, t1_take, mixL_len, scat_len]) fun _ _ => ?_
    simp (config := { maxSteps := 2000000 }) only [CALL, ↓VC, VP, TT, List.getElem?_toArray, Nat.reduceEqDiff, reduceCtorEq, Nat.reduceAdd, Nat.reduceSub, Nat.reduceLT, Nat.reduceMul, Nat.reducePow, Nat.reduceLeDiff, Int.reduceToNat, Int.reduceLE, Int.reduceLT, Int.reducePow, instL_room, Bool.not_true, Bool.not_false, fn_len, fb_len, xorN_len, mixL_len, n_inst, n_len, ↓n_all, ↓n_field, ↓n_mix, ↓n_kind, ↓n_box, ne_len, ne_inst0, ↓ne_mix, ↓ne_mixB, ↓ne_kind, Net.bl]
    refine kLoop_of (fun i : Nat => ([.p 0 0, .j, .j, .j, .p 3 0, .j, .p 4 0, .p 5 0, .j, .j, .j, .j, .j, .j, .j, .j, .j, .j, .j, .j, .j, .j, .j, .j, .j, .j, .j, .j, .c (.int .i64 (i)), .j, .j, .j, .j, .j, .j, .j, .j, .j, .j, .j, .j, .j, .j, .j, .j, .j, .j], [⟨false, c.eng 1 2⟩, ⟨false, bs c.t1⟩, ⟨false, bs c.t2⟩, ⟨true, bs key⟩, ⟨true, bs (List.replicate 8 0)⟩, ⟨true, bs (fl 8 (fun i => (mixL 8 c.m (backL c.m c.A) (scat y 8)).getD i 0) (fun i => (invL 256 c.box 256).getD ((mixL 8 c.m (backL c.m c.A) (scat y 8)).getD i 0).toNat 0 ^^^ key.getD i 0) i)⟩])) (fun i => 8 - i) (fun i => i ≤ 8) 0 (by omega)
      ⟨[0, 1, 2, 3, 5, 6], by rw [← fl_start (mixL_len _ _ _ _)]; simp [-List.reduceReplicate, LES, ne_ren, ne_ok]⟩ ?_
    intro i hi
    rcases Nat.lt_or_ge i 8 with h | h
    · simp only [↓VC, VP, TT, List.getElem?_toArray, Nat.reduceEqDiff, reduceCtorEq, Nat.reduceAdd, Nat.reduceSub, Nat.reduceLT, Nat.reduceMul, Nat.reducePow, Nat.reduceLeDiff, Int.reduceToNat, Int.reduceLE, Int.reduceLT, Int.reducePow, hk, fl_len, fl_at, fl_set, h, (eq_true (by omega) : ((i : Int) < 8) = True), (eq_true (by omega) : ((i : Int) < ((8 : Nat) : Int)) = True), wrap_i64 (n := (i : Int) + 1) (by omega) (by omega), decide_true, h, ↓ne_inv, int_lt_256]
      exact ⟨i + 1, by omega, by omega, [0, 1, 2, 3, 4, 5], by simp [-List.reduceReplicate, LES, ne_ren, ne_ok]⟩
    · obtain rfl : i = 8 := by omega
      simp only [↓VC, VP, TT, List.getElem?_toArray, Nat.reduceEqDiff, reduceCtorEq, Nat.reduceAdd, Nat.reduceSub, Nat.reduceLT, Nat.reduceMul, Nat.reducePow, Nat.reduceLeDiff, Int.reduceToNat, Int.reduceLE, Int.reduceLT, Int.reducePow, fl_len, (eq_false (by omega) : (((8 : Nat) : Int) < 8) = False), decide_false]
      rw [fl_done]
      refine ⟨_, _, [0, 1, 2], ⟨rfl, rfl⟩, ?_⟩
      simp [-List.reduceReplicate, LES, Net.fb, fbL, ne_ren, ne_ok] <;> rfl
end Go.Proofs.Ytapagcnipdpfiaa
