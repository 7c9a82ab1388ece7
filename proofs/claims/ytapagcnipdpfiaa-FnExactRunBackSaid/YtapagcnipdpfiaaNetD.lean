import Derived.Test.YtapagcnipdpfiaaNetE
import Derived.Test.YtapagcnipdpfiaaEngC
import Derived.Test.YtapagcnipdpfiaaEngD
import Derived.Test.YtapagcnipdpfiaaEngJ
/- Networks: the program's engine, round function, rounds. -/
set_option linter.unusedSimpArgs false
set_option linter.unusedVariables false
namespace Go.Proofs.Ytapagcnipdpfiaa
open Go Go.Vc
set_option maxRecDepth 10000
set_option maxHeartbeats 4000000
/-- A network engine's cells. -/
def nengC (box bb : List UInt8) (h1 h2 : Nat) (kd : Int) : List V := bs box ++ (bs bb ++ [.p h1 0, .p h2 0, .c (.int .i64 kd)])
namespace Net
variable (c : Net)
def eng (h1 h2 : Nat) : List V := nengC c.box (invL 256 c.box 256) h1 h2 c.k
def t1 : List UInt8 := tabL c.m c.A
def t2 : List UInt8 := tabL c.m (backL c.m c.A)
def bl (own : Bool) : List Blk := [⟨own, c.eng 1 2⟩, ⟨own, bs c.t1⟩, ⟨own, bs c.t2⟩]
end Net
section
variable {c : Net} {h1 h2 : Nat} {kc : V → Prop}
theorem t1_take : List.take (tabL c.m c.A).length (bs c.t1) = bs (tabL c.m c.A) := by unfold Net.t1; rw [← bs_length, List.take_length]
theorem t2_take : List.take (tabL c.m (backL c.m c.A)).length (bs c.t2) = bs (tabL c.m (backL c.m c.A)) := by unfold Net.t2; rw [← bs_length, List.take_length]
theorem ne_len (a b : Nat) : (c.eng a b).length = 515 := by simp [Net.eng, nengC, bs_length, c.hb, invL_len]
theorem ne_box (u : UInt8) : vGet (c.eng h1 h2) u.toNat kc = kc (.c (.int .u8 ((c.box.getD u.toNat 0).toNat : Int))) := by
  have := u.toNat_lt
  unfold Net.eng nengC; rw [vGet_appL (by rw [bs_length, c.hb]; omega), vGet_bs, c.hb]; simp; omega
theorem ne_inv (u : UInt8) : vGet (c.eng h1 h2) (256 + u.toNat) kc = kc (.c (.int .u8 (((invL 256 c.box 256).getD u.toNat 0).toNat : Int))) := by
  have := u.toNat_lt
  unfold Net.eng nengC
  rw [vGet_appR (by rw [bs_length, c.hb]; omega), bs_length, c.hb, vGet_appL (by rw [bs_length, invL_len]; omega), vGet_bs, invL_len, show 256 + u.toNat - 256 = u.toNat by omega]; simp; omega
theorem ne_mix : vGet (c.eng h1 h2) 512 kc = kc (.p h1 0) := by
  unfold Net.eng nengC
  rw [vGet_appR (by rw [bs_length, c.hb]; omega), bs_length, c.hb, vGet_appR (by rw [bs_length, invL_len]; omega), bs_length, invL_len, vGet_zero]
theorem ne_mixB : vGet (c.eng h1 h2) 513 kc = kc (.p h2 0) := by
  unfold Net.eng nengC
  rw [vGet_appR (by rw [bs_length, c.hb]; omega), bs_length, c.hb, vGet_appR (by rw [bs_length, invL_len]; omega), bs_length, invL_len]
  simp [vGet]
theorem ne_kind : vGet (c.eng h1 h2) 514 kc = kc (.c (.int .i64 c.k)) := by
  unfold Net.eng nengC
  rw [vGet_appR (by rw [bs_length, c.hb]; omega), bs_length, c.hb, vGet_appR (by rw [bs_length, invL_len]; omega), bs_length, invL_len]
  simp [vGet]
theorem ne_ren (σ : List Nat) : V.renL σ (c.eng h1 h2) = c.eng (σ.getD h1 0) (σ.getD h2 0) := by simp [Net.eng, nengC, V.renL, V.ren, renL_app, renL_bs]
theorem ne_inst {a b d : Nat} {R : List (Nat × Nat)} (N : Nat) : V.instL ((a, 0) :: (b, 0) :: (d, 0) :: R) N (c.eng 1 2) = c.eng b d := by simp [Net.eng, nengC, V.instL, V.inst, instL_app, instL_bs]
theorem ne_inst0 (N : Nat) : V.instL [] N (c.eng h1 h2) = c.eng (N + h1) (N + h2) := by simp [Net.eng, nengC, V.instL, V.inst, instL_app, instL_bs]
theorem ne_ok (N : Nat) : okL N (c.eng h1 h2) = (h1 < N ∧ h2 < N) := by simp [Net.eng, nengC, okL, okV, okL_app, okL_bs]
theorem ne_take {a b d e : Nat} : List.take (c.eng a b).length (c.eng d e) = c.eng d e := take_all (by rw [ne_len, ne_len])
end
theorem k_newNet (c : Net) : LC Try.prog 56 [.a c.cells] [] (Ret [] (fun _ : Unit => True) fun _ => (.p 0 0, c.bl true)) := by
  have hI := invM_len c.m c.hA (unP_len 4)
  refine LC_of (X := XX (fun | 2 => .one 0 (.one 1 (.one 2 (.one 3 (.one 5 (.one 6 (.one 7 (.one 8 (.one 10 (.one 11 (.one 12 (.one 14 (.one 15 (.one 4 (.one 9 (.one 13 (.one 16 (.one 17 (.one 18 .nil)))))))))))))))))) | _ => .nil) (fun _ => []) [25, 33, 34, 61, 62, 82, 87, 112, 119, 141] 0) envOK Try.func56 (by kernel_rfl) (by kernel_rfl) rfl (Nat.le_of_ble_eq_true (by kernel_rfl)) ?_
  simp only [kFun, Try.f56, List.length_nil, List.length_cons, Nat.sub_zero, Nat.reduceSub, Nat.reduceAdd, List.nil_append, List.cons_append, List.replicate_succ, List.replicate_zero]
  simp only [XX, ↓VC, VP, TT, List.getElem?_toArray, Nat.reduceEqDiff, reduceCtorEq, Nat.reduceAdd, Nat.reduceSub, Nat.reduceLT, Nat.reduceMul, Nat.reducePow, Nat.reduceLeDiff, Int.reduceToNat, Int.reduceLE, Int.reduceLT, Int.reducePow, n_len, ↓n_all, ↓n_field, ↓n_mix]
  refine kCall_val (c_impl_invert c.m c.A c.hm c.hm' c.hA) (by rfl) [] (by simp [CALL, cellsAt, tk, take_room, bs_length, bs_nil, n_inst, n_ok, ne_inst, ne_take, ne_ok, Net.bl, fnU_len, t1_take, mixL_len]) (by simp [CALL, cellsAt, tk, take_room, bs_length, bs_nil, n_inst, n_ok, ne_inst, ne_take, ne_ok, Net.bl, fnU_len, t1_take, mixL_len]) (by simp [CALL, cellsAt, tk, take_room, bs_length, bs_nil, n_inst, n_ok, ne_inst, ne_take, ne_ok, Net.bl, fnU_len, t1_take, mixL_len]) (by simp [okL_bs, okL_room, okL, okV, n_inst, n_ok, ne_inst, ne_take, ne_ok, Net.bl, fnU_len, t1_take, mixL_len]) ?_
  simp (config := { maxSteps := 2000000 }) only [CALL, ↓VC, VP, TT, List.getElem?_toArray, Nat.reduceEqDiff, reduceCtorEq, Nat.reduceAdd, Nat.reduceSub, Nat.reduceLT, Nat.reduceMul, Nat.reducePow, Nat.reduceLeDiff, Int.reduceToNat, Int.reduceLE, Int.reduceLT, Int.reducePow, instL_room, Bool.not_true, Bool.not_false, fn_len, fb_len, xorN_len, mixL_len, n_inst, n_len, ↓n_all, ↓n_field, ↓n_mix, ↓n_kind, ↓n_box, ne_len, ne_inst0, ↓ne_mix, ↓ne_mixB, ↓ne_kind, Net.bl, hI]
  refine kCall_val (c_impl_Box_inverse c.box c.hb) (by rfl) [] (by simp [CALL, cellsAt, tk, take_room, bs_length, bs_nil, n_inst, n_ok, ne_inst, ne_take, ne_ok, Net.bl, fnU_len, t1_take, mixL_len]) (by simp [CALL, cellsAt, tk, take_room, bs_length, bs_nil, n_inst, n_ok, ne_inst, ne_take, ne_ok, Net.bl, fnU_len, t1_take, mixL_len]) (by simp [CALL, cellsAt, tk, take_room, bs_length, bs_nil, n_inst, n_ok, ne_inst, ne_take, ne_ok, Net.bl, fnU_len, t1_take, mixL_len]) (by simp [okL_bs, okL_room, okL, okV, n_inst, n_ok, ne_inst, ne_take, ne_ok, Net.bl, fnU_len, t1_take, mixL_len]) ?_
  simp (config := { maxSteps := 2000000 }) only [CALL, ↓VC, VP, TT, List.getElem?_toArray, Nat.reduceEqDiff, reduceCtorEq, Nat.reduceAdd, Nat.reduceSub, Nat.reduceLT, Nat.reduceMul, Nat.reducePow, Nat.reduceLeDiff, Int.reduceToNat, Int.reduceLE, Int.reduceLT, Int.reducePow, instL_room, Bool.not_true, Bool.not_false, fn_len, fb_len, xorN_len, mixL_len, n_inst, n_len, ↓n_all, ↓n_field, ↓n_mix, ↓n_kind, ↓n_box, ne_len, ne_inst0, ↓ne_mix, ↓ne_mixB, ↓ne_kind, Net.bl, hI]
  refine kCall_Ret (c_newMixer c.m c.A c.hm c.hm' c.hA) (by rfl) [] (by simp [CALL, cellsAt, tk, take_room, bs_length, bs_nil, n_inst, n_ok, ne_inst, ne_take, ne_ok, Net.bl, fnU_len, t1_take, mixL_len]) (by simp [CALL, cellsAt, tk, take_room, bs_length, bs_nil, n_inst, n_ok, ne_inst, ne_take, ne_ok, Net.bl, fnU_len, t1_take, mixL_len]) (by simp [CALL, cellsAt, tk, take_room, bs_length, bs_nil, n_inst, n_ok, ne_inst, ne_take, ne_ok, Net.bl, fnU_len, t1_take, mixL_len]) (by simp [okL_bs, okL_room, okL, okV, n_inst, n_ok, ne_inst, ne_take, ne_ok, Net.bl, fnU_len, t1_take, mixL_len]) (by simp [CALL, cellsAt, tk, take_room, bs_length, bs_nil, n_inst, n_ok, ne_inst, ne_take, ne_ok, Net.bl, fnU_len, t1_take, mixL_len]) fun _ _ => ?_
  simp (config := { maxSteps := 2000000 }) only [CALL, ↓VC, VP, TT, List.getElem?_toArray, Nat.reduceEqDiff, reduceCtorEq, Nat.reduceAdd, Nat.reduceSub, Nat.reduceLT, Nat.reduceMul, Nat.reducePow, Nat.reduceLeDiff, Int.reduceToNat, Int.reduceLE, Int.reduceLT, Int.reducePow, instL_room, Bool.not_true, Bool.not_false, fn_len, fb_len, xorN_len, mixL_len, n_inst, n_len, ↓n_all, ↓n_field, ↓n_mix, ↓n_kind, ↓n_box, ne_len, ne_inst0, ↓ne_mix, ↓ne_mixB, ↓ne_kind, Net.bl, hI]
  refine kCall_Ret (c_newMixer c.m (invM c.m c.A (unP 4)).2 c.hm c.hm' hI) (by rfl) [] (by simp [CALL, cellsAt, tk, take_room, bs_length, bs_nil, n_inst, n_ok, ne_inst, ne_take, ne_ok, Net.bl, fnU_len, t1_take, mixL_len]) (by simp [CALL, cellsAt, tk, take_room, bs_length, bs_nil, n_inst, n_ok, ne_inst, ne_take, ne_ok, Net.bl, fnU_len, t1_take, mixL_len]) (by simp [CALL, cellsAt, tk, take_room, bs_length, bs_nil, n_inst, n_ok, ne_inst, ne_take, ne_ok, Net.bl, fnU_len, t1_take, mixL_len]) (by simp [okL_bs, okL_room, okL, okV, n_inst, n_ok, ne_inst, ne_take, ne_ok, Net.bl, fnU_len, t1_take, mixL_len]) (by simp [CALL, cellsAt, tk, take_room, bs_length, bs_nil, n_inst, n_ok, ne_inst, ne_take, ne_ok, Net.bl, fnU_len, t1_take, mixL_len]) fun _ _ => ?_
  simp (config := { maxSteps := 2000000 }) only [CALL, ↓VC, VP, TT, List.getElem?_toArray, Nat.reduceEqDiff, reduceCtorEq, Nat.reduceAdd, Nat.reduceSub, Nat.reduceLT, Nat.reduceMul, Nat.reducePow, Nat.reduceLeDiff, Int.reduceToNat, Int.reduceLE, Int.reduceLT, Int.reducePow, instL_room, Bool.not_true, Bool.not_false, fn_len, fb_len, xorN_len, mixL_len, n_inst, n_len, ↓n_all, ↓n_field, ↓n_mix, ↓n_kind, ↓n_box, ne_len, ne_inst0, ↓ne_mix, ↓ne_mixB, ↓ne_kind, Net.bl, hI, invL_len, c.hb, splice_app0, splice_appR]
  refine ⟨?_, _, _, [4, 2, 3], ⟨(), trivial, rfl, rfl⟩, ?_⟩
  · intro x hx; simp only [List.mem_cons, List.not_mem_nil, or_false] at hx; rcases hx with rfl | rfl | rfl | rfl | rfl <;> rfl
  simp [-List.reduceReplicate, LES, ne_ren, ne_ok, Net.t1, Net.t2, backL]
  simp [Net.eng, nengC]
theorem k_impl_fn (c : Net) (key x : List UInt8) (hk : key.length = 8) (hx : x.length = 8) : LC Try.prog 110 [.p 0 0, .a (bs key), .a (bs x)] (c.bl false) (fun v hp => v = .a (bs (c.fn key x)) ∧ hp = c.bl false) := by
  unfold Net.bl
  refine LC_of (X := XX (fun | 4 => .one 0 (.one 1 (.one 2 (.one 3 (.one 4 (.one 5 (.one 6 (.one 7 (.one 8 (.one 9 (.one 10 (.one 11 (.one 12 (.one 13 (.one 14 .nil)))))))))))))) | 6 => .one 0 (.one 1 (.one 2 (.one 3 (.one 4 (.one 5 .nil))))) | _ => .nil) (fun _ => []) [25, 33, 34, 61, 62, 82, 87, 112, 119, 141] 3) envOK Try.func110 (by kernel_rfl) (by kernel_rfl) rfl (Nat.le_of_ble_eq_true (by kernel_rfl)) ?_
  simp only [kFun, Try.f110, List.length_nil, List.length_cons, Nat.sub_zero, Nat.reduceSub, Nat.reduceAdd, List.nil_append, List.cons_append, List.replicate_succ, List.replicate_zero]
  simp only [XX, ↓VC, VP, TT, List.getElem?_toArray, Nat.reduceEqDiff, reduceCtorEq, Nat.reduceAdd, Nat.reduceSub, Nat.reduceLT, Nat.reduceMul, Nat.reducePow, Nat.reduceLeDiff, Int.reduceToNat, Int.reduceLE, Int.reduceLT, Int.reducePow, hk, hx]
  refine kLoop_of (fun i : Nat => ([.p 0 0, .j, .j, .j, .p 3 0, .p 4 0, .p 5 0, .j, .j, .j, .c (.int .i64 (i)), .j, .j, .j, .j, .j, .j, .j, .j, .j, .j, .j, .j, .j, .j, .j, .j, .j, .j, .j, .j, .j, .j, .j, .j, .j, .j, .j, .j, .j, .j, .j, .j, .j, .j, .j, .j], [⟨false, c.eng 1 2⟩, ⟨false, bs c.t1⟩, ⟨false, bs c.t2⟩, ⟨true, bs key⟩, ⟨true, bs (fl 8 (fun i => x.getD i 0) (fun i => c.box.getD (x.getD i 0 ^^^ key.getD i 0).toNat 0) i)⟩, ⟨true, bs (List.replicate 8 0)⟩])) (fun i => 8 - i) (fun i => i ≤ 8) 0 (by omega)
    ⟨[0, 1, 2, 3, 4, 5], by rw [← fl_start hx]; simp [-List.reduceReplicate, LES, ne_ren, ne_ok]⟩ ?_
  intro i hi
  rcases Nat.lt_or_ge i 8 with h | h
  · simp only [↓VC, VP, TT, List.getElem?_toArray, Nat.reduceEqDiff, reduceCtorEq, Nat.reduceAdd, Nat.reduceSub, Nat.reduceLT, Nat.reduceMul, Nat.reducePow, Nat.reduceLeDiff, Int.reduceToNat, Int.reduceLE, Int.reduceLT, Int.reducePow, hk, hx, fl_len, fl_at, fl_set, h, (eq_true (by omega) : ((i : Int) < 8) = True), (eq_true (by omega) : ((i : Int) < ((8 : Nat) : Int)) = True), wrap_i64 (n := (i : Int) + 1) (by omega) (by omega), decide_true, h, ↓ne_box, int_lt_256]
    exact ⟨i + 1, by omega, by omega, [0, 1, 2, 3, 4, 5], by simp [-List.reduceReplicate, LES, ne_ren, ne_ok]⟩
  · obtain rfl : i = 8 := by omega
    simp only [↓VC, VP, TT, List.getElem?_toArray, Nat.reduceEqDiff, reduceCtorEq, Nat.reduceAdd, Nat.reduceSub, Nat.reduceLT, Nat.reduceMul, Nat.reducePow, Nat.reduceLeDiff, Int.reduceToNat, Int.reduceLE, Int.reduceLT, Int.reducePow, fl_len, (eq_false (by omega) : (((8 : Nat) : Int) < 8) = False), decide_false, ↓ne_mix]
    rw [fl_done, show (tab 8 fun i => c.box.getD (x.getD i 0 ^^^ key.getD i 0).toNat 0) = fnU c.box key x from rfl]
    refine kCall_M (c_mix c.m c.A (fnU c.box key x) 8 2 rfl (by omega) (fnU_len _ _ _)) (by rfl) [(1, 0), (4, 0)] (by simp [CALL, cellsAt, tk, take_room, bs_length, bs_nil, n_inst, n_ok, ne_inst, ne_take, ne_ok, Net.bl, fnU_len, t1_take, mixL_len]) (by simp [CALL, cellsAt, tk, take_room, bs_length, bs_nil, n_inst, n_ok, ne_inst, ne_take, ne_ok, Net.bl, fnU_len, t1_take, mixL_len]) (by simp) (by simp [CALL, cellsAt, tk, take_room, bs_length, bs_nil, n_inst, n_ok, ne_inst, ne_take, ne_ok, Net.bl, fnU_len, t1_take, mixL_len]) (by simp [okL_bs, okL_room, okL, okV, n_inst, n_ok, ne_inst, ne_take, ne_ok, Net.bl, fnU_len, t1_take, mixL_len]) (by intro x _; simp [keepR, bs_length, n_inst, n_ok, ne_inst, ne_take, ne_ok, Net.bl, fnU_len, t1_take, mixL_len]) (by simp [CALL, cellsAt, tk, take_room, bs_length, bs_nil, n_inst, n_ok, ne_inst, ne_take, ne_ok, Net.bl, fnU_len, t1_take, mixL_len]) fun _ _ => ?_
    simp (config := { maxSteps := 2000000 }) only [CALL, ↓VC, VP, TT, List.getElem?_toArray, Nat.reduceEqDiff, reduceCtorEq, Nat.reduceAdd, Nat.reduceSub, Nat.reduceLT, Nat.reduceMul, Nat.reducePow, Nat.reduceLeDiff, Int.reduceToNat, Int.reduceLE, Int.reduceLT, Int.reducePow, instL_room, Bool.not_true, Bool.not_false, fn_len, fb_len, xorN_len, mixL_len, n_inst, n_len, ↓n_all, ↓n_field, ↓n_mix, ↓n_kind, ↓n_box, ne_len, ne_inst0, ↓ne_mix, ↓ne_mixB, ↓ne_kind, Net.bl]
    refine kLoop_of (fun i : Nat => ([.j, .j, .j, .j, .j, .p 3 0, .p 4 0, .j, .p 5 0, .j, .j, .j, .j, .j, .j, .j, .j, .j, .j, .j, .j, .j, .j, .j, .j, .j, .j, .j, .j, .j, .j, .j, .j, .j, .j, .c (.int .i64 (i)), .j, .j, .j, .j, .j, .j, .j, .j, .j, .j, .j], [⟨false, c.eng 1 2⟩, ⟨false, bs c.t1⟩, ⟨false, bs c.t2⟩, ⟨true, bs (mixL 8 c.m c.A (fnU c.box key x))⟩, ⟨true, bs (List.replicate 8 0)⟩, ⟨true, bs (fl 8 (fun _ => 0) (fun i => (mixL 8 c.m c.A (fnU c.box key x)).getD (3 * i % 8) 0) i)⟩])) (fun i => 8 - i) (fun i => i ≤ 8) 0 (by omega)
      ⟨[0, 1, 2, 4, 5, 6], by rw [← fl_zero]; simp [-List.reduceReplicate, LES, ne_ren, ne_ok]⟩ ?_
    intro i hi
    rcases Nat.lt_or_ge i 8 with h | h
    · have w1 : IntKind.i64.wrap (3 * (i : Int)) = ((3 * i : Nat) : Int) := by rw [wrap_i64 (by omega) (by omega)]; omega
      have w2 : Int.tmod ((3 * i : Nat) : Int) 8 = ((3 * i % 8 : Nat) : Int) := rfl
      simp only [↓VC, VP, TT, List.getElem?_toArray, Nat.reduceEqDiff, reduceCtorEq, Nat.reduceAdd, Nat.reduceSub, Nat.reduceLT, Nat.reduceMul, Nat.reducePow, Nat.reduceLeDiff, Int.reduceToNat, Int.reduceLE, Int.reduceLT, Int.reducePow, mixL_len, fl_len, fl_set, h, (eq_true (by omega) : ((i : Int) < 8) = True), (eq_true (by omega) : ((i : Int) < ((8 : Nat) : Int)) = True), wrap_i64 (n := (i : Int) + 1) (by omega) (by omega), decide_true, h, w1, w2, (eq_true (by omega) : (((3 * i % 8 : Nat) : Int) < ((8 : Nat) : Int)) = True), (eq_true (by omega) : (3 * i % 8 < 8) = True)]
      try refine ⟨by decide, ?_⟩
      exact ⟨i + 1, by omega, by omega, [0, 1, 2, 3, 4, 5], by simp [-List.reduceReplicate, LES, ne_ren, ne_ok]⟩
    · obtain rfl : i = 8 := by omega
      simp only [↓VC, VP, TT, List.getElem?_toArray, Nat.reduceEqDiff, reduceCtorEq, Nat.reduceAdd, Nat.reduceSub, Nat.reduceLT, Nat.reduceMul, Nat.reducePow, Nat.reduceLeDiff, Int.reduceToNat, Int.reduceLE, Int.reduceLT, Int.reducePow, fl_len, (eq_false (by omega) : (((8 : Nat) : Int) < 8) = False), decide_false]
      rw [fl_done]
      refine ⟨_, _, [0, 1, 2], ⟨rfl, rfl⟩, ?_⟩
      simp [-List.reduceReplicate, LES, Net.fn, fnL, ne_ren, ne_ok] <;> rfl
end Go.Proofs.Ytapagcnipdpfiaa
