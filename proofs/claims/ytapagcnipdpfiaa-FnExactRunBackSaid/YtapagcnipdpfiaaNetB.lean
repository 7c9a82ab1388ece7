import Derived.Test.YtapagcnipdpfiaaNetA
import Derived.Test.YtapagcnipdpfiaaXor
import Derived.Test.YtapagcnipdpfiaaFieldM
/- Networks: the reference's round functions, rounds, both ways. -/
set_option linter.unusedSimpArgs false
set_option linter.unusedVariables false
namespace Go.Proofs.Ytapagcnipdpfiaa
open Go Go.Vc
set_option maxRecDepth 10000
set_option maxHeartbeats 4000000
/-- A network with what is known of it. -/
structure Net where
  m : Nat
  box : List UInt8
  A : List UInt8
  k : Int
  n : Nat
  hm : 256 ≤ m
  hm' : m < 512
  hb : box.length = 256
  hA : A.length = 16
  hk : 0 ≤ k
  hk' : k ≤ 2
  hn1 : 1 ≤ n
  hn : n ≤ 40
  is : netB m box A k n = true
theorem net_of {z : Int} {box A : List UInt8} {k n : Int} (hb : box.length = 256) (hA : A.length = 16) (h : netB z box A k n = true) : ∃ c : Net, z = c.m ∧ box = c.box ∧ A = c.A ∧ k = c.k ∧ n = c.n := by
  have h0 := h
  unfold netB at h
  simp only [Bool.and_eq_true, decide_eq_true_eq] at h
  obtain ⟨m, rfl, h1, h2⟩ := fieldB_spec h.1
  obtain ⟨j, rfl⟩ : ∃ j : Nat, n = j := ⟨n.toNat, by omega⟩
  exact ⟨⟨m, box, A, k, j, h1, h2, hb, hA, by omega, by omega, by omega, by omega, h0⟩, rfl, rfl, rfl, rfl, rfl⟩
namespace Net
variable (c : Net)
def cells : List V := netC c.m c.box c.A c.k c.n
def fn (key x : List UInt8) : List UInt8 := fnL c.m c.box c.A key x
def fb (key y : List UInt8) : List UInt8 := fbL c.m c.box (backL c.m c.A) key y
def rnd (key b : List UInt8) : List UInt8 := rndL c.m c.box c.A c.k key b
def rbk (key b : List UInt8) : List UInt8 := rbkL c.m c.box c.A (backL c.m c.A) c.k key b
end Net
section
variable {c : Net} {kc : V → Prop}
theorem n_len : c.cells.length = 275 := netC_len c.hb c.hA
theorem n_all {n : Nat} (hn : n = 275) : vSub c.cells 0 n kc = kc (.a c.cells) := net_all c.hb c.hA hn
theorem n_field : vGet c.cells 0 kc = kc (.c (.int .i64 c.m)) := net_field
theorem n_box : vSub c.cells 1 256 kc = kc (.a (bs c.box)) := net_box c.hb
theorem n_mix : vSub c.cells 257 16 kc = kc (.a (bs c.A)) := net_mix c.hb c.hA
theorem n_kind : vGet c.cells 273 kc = kc (.c (.int .i64 c.k)) := net_kind c.hb c.hA
theorem n_rd : vGet c.cells 274 kc = kc (.c (.int .i64 c.n)) := net_rd c.hb c.hA
theorem n_at (u : UInt8) : vGet c.cells (1 + u.toNat) kc = kc (.c (.int .u8 ((c.box.getD u.toNat 0).toNat : Int))) := by
  have hu := u.toNat_lt
  unfold Net.cells netC
  rw [vGet_oneAdd, vGet_appL (by rw [bs_length, c.hb]; omega), vGet_bs, c.hb]
  simp; omega
theorem n_ren (σ : List Nat) : V.renL σ c.cells = c.cells := renL_net σ
theorem n_inst (sub : List (Nat × Nat)) (N : Nat) : V.instL sub N c.cells = c.cells := instL_net sub N
theorem n_ok (N : Nat) : okL N c.cells := okL_net N
theorem fn_len (key x : List UInt8) : (c.fn key x).length = 8 := fnL_len _ _ _ _ _
theorem fb_len (key y : List UInt8) : (c.fb key y).length = 8 := fbL_len _ _ _ _ _
theorem rnd_len (key b : List UInt8) (hb : b.length = 16) : (c.rnd key b).length = 16 := rndL_len hb
theorem rbk_len (key b : List UInt8) (hb : b.length = 16) : (c.rbk key b).length = 16 := rbkL_len hb
end
theorem k_spec_NIs (c : Net) : LC Try.prog 93 [.a c.cells] [] (fun v hp => v = .c (.bool (true)) ∧ hp = []) := by
  have := c_spec_l06Is c.m c.k c.n c.box c.A c.hb c.hA
  rw [c.is] at this
  exact this
theorem k_impl_NIs (c : Net) : LC Try.prog 101 [.a c.cells] [] (fun v hp => v = .c (.bool (true)) ∧ hp = []) := by
  have := c_impl_IsNetwork c.m c.k c.n c.box c.A c.hb c.hA
  rw [c.is] at this
  exact this
theorem k_spec_fn (c : Net) (key x : List UInt8) (hk : key.length = 8) (hx : x.length = 8) : LC Try.prog 97 [.a c.cells, .a (bs key), .a (bs x)] [] (fun v hp => v = .a (bs (c.fn key x)) ∧ hp = []) := by
  refine LC_of (X := XX (fun | 5 => .one 0 (.one 1 (.one 2 (.one 3 (.one 4 (.one 5 (.one 6 (.one 7 (.one 8 (.one 9 (.one 10 (.one 11 (.one 12 .nil)))))))))))) | _ => .nil) (fun _ => []) [25, 33, 34, 61, 62, 82, 87, 112, 119, 141] 0) envOK Try.func97 (by kernel_rfl) (by kernel_rfl) rfl (Nat.le_of_ble_eq_true (by kernel_rfl)) ?_
  simp only [kFun, Try.f97, List.length_nil, List.length_cons, Nat.sub_zero, Nat.reduceSub, Nat.reduceAdd, List.nil_append, List.cons_append, List.replicate_succ, List.replicate_zero]
  simp only [XX, ↓VC, VP, TT, List.getElem?_toArray, Nat.reduceEqDiff, reduceCtorEq, Nat.reduceAdd, Nat.reduceSub, Nat.reduceLT, Nat.reduceMul, Nat.reducePow, Nat.reduceLeDiff, Int.reduceToNat, Int.reduceLE, Int.reduceLT, Int.reducePow, hk, hx]
  refine kLoop_of (fun i : Nat => ([.j, .j, .j, .p 0 0, .p 1 0, .p 2 0, .p 3 0, .p 4 0, .p 5 0, .c (.int .i64 (i)), .j, .j, .j, .j, .j, .j, .j, .j, .j, .j, .j, .j, .j, .j, .j, .j, .j, .j, .j, .j, .j, .j, .j, .j, .j, .j, .j, .j, .j, .j, .j, .j, .j, .j, .j, .j, .j, .j], [⟨true, c.cells⟩, ⟨true, bs key⟩, ⟨true, bs x⟩, ⟨true, bs (List.replicate 8 0)⟩, ⟨true, bs (fl 8 (fun _ => 0) (fun i => c.box.getD (x.getD i 0 ^^^ key.getD i 0).toNat 0) i)⟩, ⟨true, bs (List.replicate 8 0)⟩])) (fun i => 8 - i) (fun i => i ≤ 8) 0 (by omega)
    ⟨[0, 1, 2, 3, 4, 5], by rw [← fl_zero]; simp [-List.reduceReplicate, LES, n_ren, n_ok]⟩ ?_
  intro i hi
  rcases Nat.lt_or_ge i 8 with h | h
  · simp only [↓VC, VP, TT, List.getElem?_toArray, Nat.reduceEqDiff, reduceCtorEq, Nat.reduceAdd, Nat.reduceSub, Nat.reduceLT, Nat.reduceMul, Nat.reducePow, Nat.reduceLeDiff, Int.reduceToNat, Int.reduceLE, Int.reduceLT, Int.reducePow, hk, hx, fl_len, fl_set, h, (eq_true (by omega) : ((i : Int) < 8) = True), (eq_true (by omega) : ((i : Int) < ((8 : Nat) : Int)) = True), wrap_i64 (n := (i : Int) + 1) (by omega) (by omega), decide_true, h, ↓n_at, int_lt_256]
    exact ⟨i + 1, by omega, by omega, [0, 1, 2, 3, 4, 5], by simp [-List.reduceReplicate, LES, n_ren, n_ok]⟩
  · obtain rfl : i = 8 := by omega
    simp only [↓VC, VP, TT, List.getElem?_toArray, Nat.reduceEqDiff, reduceCtorEq, Nat.reduceAdd, Nat.reduceSub, Nat.reduceLT, Nat.reduceMul, Nat.reducePow, Nat.reduceLeDiff, Int.reduceToNat, Int.reduceLE, Int.reduceLT, Int.reducePow, fl_len, (eq_false (by omega) : (((8 : Nat) : Int) < 8) = False), decide_false, ↓n_field, ↓n_mix]
    rw [fl_done, show (tab 8 fun i => c.box.getD (x.getD i 0 ^^^ key.getD i 0).toNat 0) = fnU c.box key x from rfl]
    refine kCall_val (c_spec_l06Lead c.m c.A (fnU c.box key x) c.hm c.hm' c.hA (fnU_len _ _ _)) (by rfl) [] (by simp [CALL, cellsAt, tk, take_room, bs_length, bs_nil, n_inst, n_ok]) (by simp [CALL, cellsAt, tk, take_room, bs_length, bs_nil, n_inst, n_ok]) (by simp [CALL, cellsAt, tk, take_room, bs_length, bs_nil, n_inst, n_ok]) (by simp [okL_bs, okL_room, okL, okV, n_inst, n_ok]) ?_
    simp (config := { maxSteps := 2000000 }) only [CALL, ↓VC, VP, TT, List.getElem?_toArray, Nat.reduceEqDiff, reduceCtorEq, Nat.reduceAdd, Nat.reduceSub, Nat.reduceLT, Nat.reduceMul, Nat.reducePow, Nat.reduceLeDiff, Int.reduceToNat, Int.reduceLE, Int.reduceLT, Int.reducePow, instL_room, Bool.not_true, Bool.not_false, fn_len, fb_len, xorN_len, mixL_len, n_inst, n_len, ↓n_all, ↓n_field, ↓n_mix, ↓n_kind, ↓n_box, fnU_len]
    refine kLoop_of (fun i : Nat => ([.j, .j, .j, .j, .j, .j, .p 0 0, .j, .p 1 0, .j, .p 2 0, .c (.int .i64 (i)), .j, .j, .j, .j, .j, .j, .j, .j, .j, .j, .j, .j, .j, .j, .j, .j, .j, .j, .j, .j, .j, .j, .j, .j, .j, .j, .j, .j, .j, .j, .j, .j, .j, .j, .j, .j], [⟨true, bs (List.replicate 8 0)⟩, ⟨true, bs (fl 8 (fun _ => 0) (fun i => (mixL 8 c.m c.A (fnU c.box key x)).getD (3 * i % 8) 0) i)⟩, ⟨true, bs (mixL 8 c.m c.A (fnU c.box key x))⟩])) (fun i => 8 - i) (fun i => i ≤ 8) 0 (by omega)
      ⟨[3, 5, 6], by rw [← fl_zero]; simp [-List.reduceReplicate, LES]⟩ ?_
    intro i hi
    rcases Nat.lt_or_ge i 8 with h | h
    · have w1 : IntKind.i64.wrap (3 * (i : Int)) = ((3 * i : Nat) : Int) := by rw [wrap_i64 (by omega) (by omega)]; omega
      have w2 : Int.tmod ((3 * i : Nat) : Int) 8 = ((3 * i % 8 : Nat) : Int) := rfl
      simp only [↓VC, VP, TT, List.getElem?_toArray, Nat.reduceEqDiff, reduceCtorEq, Nat.reduceAdd, Nat.reduceSub, Nat.reduceLT, Nat.reduceMul, Nat.reducePow, Nat.reduceLeDiff, Int.reduceToNat, Int.reduceLE, Int.reduceLT, Int.reducePow, mixL_len, fl_len, fl_set, h, (eq_true (by omega) : ((i : Int) < 8) = True), (eq_true (by omega) : ((i : Int) < ((8 : Nat) : Int)) = True), wrap_i64 (n := (i : Int) + 1) (by omega) (by omega), decide_true, h, w1, w2, (eq_true (by omega) : (((3 * i % 8 : Nat) : Int) < ((8 : Nat) : Int)) = True), (eq_true (by omega) : (3 * i % 8 < 8) = True)]
      try refine ⟨by decide, ?_⟩
      exact ⟨i + 1, by omega, by omega, [0, 1, 2], by simp [-List.reduceReplicate, LES]⟩
    · obtain rfl : i = 8 := by omega
      simp only [↓VC, VP, TT, List.getElem?_toArray, Nat.reduceEqDiff, reduceCtorEq, Nat.reduceAdd, Nat.reduceSub, Nat.reduceLT, Nat.reduceMul, Nat.reducePow, Nat.reduceLeDiff, Int.reduceToNat, Int.reduceLE, Int.reduceLT, Int.reducePow, fl_len, (eq_false (by omega) : (((8 : Nat) : Int) < 8) = False), decide_false]
      rw [fl_done]
      refine ⟨_, _, [], ⟨rfl, rfl⟩, ?_⟩
      simp [-List.reduceReplicate, LES, Net.fn, fnL] <;> rfl
theorem k_spec_fb (c : Net) (key y : List UInt8) (hk : key.length = 8) (hy : y.length = 8) : LC Try.prog 98 [.a c.cells, .a (bs key), .a (bs y)] [] (fun v hp => v = .a (bs (c.fb key y)) ∧ hp = []) := by
  have hsc := scat_len y
  have hB := backL_len c.m c.hA
  refine LC_of (X := XX (fun | 12 => .one 0 (.one 1 (.one 2 (.one 3 (.one 4 (.one 5 (.one 6 (.one 7 (.one 8 (.one 9 (.one 10 (.one 11 .nil))))))))))) | _ => .nil) (fun _ => []) [25, 33, 34, 61, 62, 82, 87, 112, 119, 141] 0) envOK Try.func98 (by kernel_rfl) (by kernel_rfl) rfl (Nat.le_of_ble_eq_true (by kernel_rfl)) ?_
  simp only [kFun, Try.f98, List.length_nil, List.length_cons, Nat.sub_zero, Nat.reduceSub, Nat.reduceAdd, List.nil_append, List.cons_append, List.replicate_succ, List.replicate_zero]
  simp only [XX, ↓VC, VP, TT, List.getElem?_toArray, Nat.reduceEqDiff, reduceCtorEq, Nat.reduceAdd, Nat.reduceSub, Nat.reduceLT, Nat.reduceMul, Nat.reducePow, Nat.reduceLeDiff, Int.reduceToNat, Int.reduceLE, Int.reduceLT, Int.reducePow, hk, hy]
  refine kLoop_of (fun i : Nat => ([.j, .j, .j, .p 0 0, .p 1 0, .p 2 0, .p 3 0, .p 4 0, .c (.int .i64 (i)), .j, .j, .j, .j, .j, .j, .j, .j, .j, .j, .j, .j, .j, .j, .j, .j, .j, .j, .j, .j, .j, .j, .j, .j, .j, .j, .j, .j, .j, .j, .j, .j, .j, .j, .j, .j, .j, .j, .j, .j, .j, .j, .j, .j, .j, .j, .j, .j, .j], [⟨true, c.cells⟩, ⟨true, bs key⟩, ⟨true, bs y⟩, ⟨true, bs (List.replicate 8 0)⟩, ⟨true, bs (scat y i)⟩])) (fun i => 8 - i) (fun i => i ≤ 8) 0 (by omega)
    ⟨[0, 1, 2, 3, 4], by simp [-List.reduceReplicate, LES, n_ren, n_ok, scat]⟩ ?_
  intro i hi
  rcases Nat.lt_or_ge i 8 with h | h
  · have w1 : IntKind.i64.wrap (3 * (i : Int)) = ((3 * i : Nat) : Int) := by rw [wrap_i64 (by omega) (by omega)]; omega
    have w2 : Int.tmod ((3 * i : Nat) : Int) 8 = ((3 * i % 8 : Nat) : Int) := rfl
    simp only [↓VC, VP, TT, List.getElem?_toArray, Nat.reduceEqDiff, reduceCtorEq, Nat.reduceAdd, Nat.reduceSub, Nat.reduceLT, Nat.reduceMul, Nat.reducePow, Nat.reduceLeDiff, Int.reduceToNat, Int.reduceLE, Int.reduceLT, Int.reducePow, hy, hsc, h, (eq_true (by omega) : ((i : Int) < 8) = True), (eq_true (by omega) : ((i : Int) < ((8 : Nat) : Int)) = True), wrap_i64 (n := (i : Int) + 1) (by omega) (by omega), decide_true, h, w1, w2, (eq_true (by omega) : (((3 * i % 8 : Nat) : Int) < ((8 : Nat) : Int)) = True), (eq_true (by omega) : (3 * i % 8 < 8) = True)]
    try refine ⟨by decide, ?_⟩
    exact ⟨i + 1, by omega, by omega, [0, 1, 2, 3, 4], by simp [-List.reduceReplicate, LES, n_ren, n_ok, scat]⟩
  · obtain rfl : i = 8 := by omega
    simp only [↓VC, VP, TT, List.getElem?_toArray, Nat.reduceEqDiff, reduceCtorEq, Nat.reduceAdd, Nat.reduceSub, Nat.reduceLT, Nat.reduceMul, Nat.reducePow, Nat.reduceLeDiff, Int.reduceToNat, Int.reduceLE, Int.reduceLT, Int.reducePow, hsc, (eq_false (by omega) : (((8 : Nat) : Int) < 8) = False), decide_false, ↓n_field, ↓n_mix]
    refine kCall_val (c_spec_l03Inverse c.m c.A c.hm c.hm' c.hA) (by rfl) [] (by simp [CALL, cellsAt, tk, take_room, bs_length, bs_nil, n_inst, n_ok]) (by simp [CALL, cellsAt, tk, take_room, bs_length, bs_nil, n_inst, n_ok]) (by simp [CALL, cellsAt, tk, take_room, bs_length, bs_nil, n_inst, n_ok]) (by simp [okL_bs, okL_room, okL, okV, n_inst, n_ok]) ?_
    simp (config := { maxSteps := 2000000 }) only [CALL, ↓VC, VP, TT, List.getElem?_toArray, Nat.reduceEqDiff, reduceCtorEq, Nat.reduceAdd, Nat.reduceSub, Nat.reduceLT, Nat.reduceMul, Nat.reducePow, Nat.reduceLeDiff, Int.reduceToNat, Int.reduceLE, Int.reduceLT, Int.reducePow, instL_room, Bool.not_true, Bool.not_false, fn_len, fb_len, xorN_len, mixL_len, n_inst, n_len, ↓n_all, ↓n_field, ↓n_mix, ↓n_kind, ↓n_box, hB, hsc]
    refine kCall_val (c_spec_l06Lead c.m (backL c.m c.A) (scat y 8) c.hm c.hm' hB (hsc 8)) (by rfl) [] (by simp [CALL, cellsAt, tk, take_room, bs_length, bs_nil, n_inst, n_ok]) (by simp [CALL, cellsAt, tk, take_room, bs_length, bs_nil, n_inst, n_ok]) (by simp [CALL, cellsAt, tk, take_room, bs_length, bs_nil, n_inst, n_ok]) (by simp [okL_bs, okL_room, okL, okV, n_inst, n_ok]) ?_
    simp (config := { maxSteps := 2000000 }) only [CALL, ↓VC, VP, TT, List.getElem?_toArray, Nat.reduceEqDiff, reduceCtorEq, Nat.reduceAdd, Nat.reduceSub, Nat.reduceLT, Nat.reduceMul, Nat.reducePow, Nat.reduceLeDiff, Int.reduceToNat, Int.reduceLE, Int.reduceLT, Int.reducePow, instL_room, Bool.not_true, Bool.not_false, fn_len, fb_len, xorN_len, mixL_len, n_inst, n_len, ↓n_all, ↓n_field, ↓n_mix, ↓n_kind, ↓n_box]
    refine kCall_val (c_spec_l02Inverse c.box c.hb) (by rfl) [] (by simp [CALL, cellsAt, tk, take_room, bs_length, bs_nil, n_inst, n_ok]) (by simp [CALL, cellsAt, tk, take_room, bs_length, bs_nil, n_inst, n_ok]) (by simp [CALL, cellsAt, tk, take_room, bs_length, bs_nil, n_inst, n_ok]) (by simp [okL_bs, okL_room, okL, okV, n_inst, n_ok]) ?_
    simp (config := { maxSteps := 2000000 }) only [CALL, ↓VC, VP, TT, List.getElem?_toArray, Nat.reduceEqDiff, reduceCtorEq, Nat.reduceAdd, Nat.reduceSub, Nat.reduceLT, Nat.reduceMul, Nat.reducePow, Nat.reduceLeDiff, Int.reduceToNat, Int.reduceLE, Int.reduceLT, Int.reducePow, instL_room, Bool.not_true, Bool.not_false, fn_len, fb_len, xorN_len, mixL_len, n_inst, n_len, ↓n_all, ↓n_field, ↓n_mix, ↓n_kind, ↓n_box, invL_len]
    refine kLoop_of (fun i : Nat => ([.j, .j, .j, .j, .p 0 0, .j, .p 1 0, .p 2 0, .j, .j, .j, .p 3 0, .p 4 0, .c (.int .i64 (i)), .j, .j, .j, .j, .j, .j, .j, .j, .j, .j, .j, .j, .j, .j, .j, .j, .j, .j, .j, .j, .j, .j, .j, .j, .j, .j, .j, .j, .j, .j, .j, .j, .j, .j, .j, .j, .j, .j, .j, .j, .j, .j, .j, .j], [⟨true, bs key⟩, ⟨true, bs (List.replicate 8 0)⟩, ⟨true, bs (fl 8 (fun i => (scat y 8).getD i 0) (fun i => (invL 256 c.box 256).getD ((mixL 8 c.m (backL c.m c.A) (scat y 8)).getD i 0).toNat 0 ^^^ key.getD i 0) i)⟩, ⟨true, bs (mixL 8 c.m (backL c.m c.A) (scat y 8))⟩, ⟨true, bs (invL 256 c.box 256)⟩])) (fun i => 8 - i) (fun i => i ≤ 8) 0 (by omega)
      ⟨[1, 3, 4, 6, 7], by rw [← fl_start (hsc 8)]; simp [-List.reduceReplicate, LES]⟩ ?_
    intro i hi
    rcases Nat.lt_or_ge i 8 with h | h
    · simp only [↓VC, VP, TT, List.getElem?_toArray, Nat.reduceEqDiff, reduceCtorEq, Nat.reduceAdd, Nat.reduceSub, Nat.reduceLT, Nat.reduceMul, Nat.reducePow, Nat.reduceLeDiff, Int.reduceToNat, Int.reduceLE, Int.reduceLT, Int.reducePow, hk, mixL_len, invL_len, fl_len, fl_set, h, (eq_true (by omega) : ((i : Int) < 8) = True), (eq_true (by omega) : ((i : Int) < ((8 : Nat) : Int)) = True), wrap_i64 (n := (i : Int) + 1) (by omega) (by omega), decide_true, h, u8n_lt, int_lt_256]
      exact ⟨i + 1, by omega, by omega, [0, 1, 2, 3, 4], by simp [-List.reduceReplicate, LES]⟩
    · obtain rfl : i = 8 := by omega
      simp only [↓VC, VP, TT, List.getElem?_toArray, Nat.reduceEqDiff, reduceCtorEq, Nat.reduceAdd, Nat.reduceSub, Nat.reduceLT, Nat.reduceMul, Nat.reducePow, Nat.reduceLeDiff, Int.reduceToNat, Int.reduceLE, Int.reduceLT, Int.reducePow, fl_len, (eq_false (by omega) : (((8 : Nat) : Int) < 8) = False), decide_false]
      rw [fl_done]
      refine ⟨_, _, [], ⟨rfl, rfl⟩, ?_⟩
      simp [-List.reduceReplicate, LES, Net.fb, fbL] <;> rfl
end Go.Proofs.Ytapagcnipdpfiaa
