import Derived.Test.YtjakgjelnbpmnaaGreatListsM
import Derived.Test.YtjakgjelnbpmnaaGreatFieldC
/- Bytes moved, boxed, rotated; the unit matrix; the keys of rounds: what the functions compute. -/
set_option linter.unusedSimpArgs false
set_option linter.unusedVariables false
namespace Go.Proofs.YtjakgjelnbpmnaaGreat
open Go Go.Vc
set_option maxRecDepth 10000
theorem inU8_one : inU8 1 = True := eq_true ⟨by decide, by decide⟩
theorem ofInt_one : UInt8.ofInt 1 = 1 := rfl
theorem int_lt_256 (u : UInt8) : ((u.toNat : Int) < ((256 : Nat) : Int)) = True := eq_true (by have := u.toNat_lt; omega)
theorem c_spec_l02Then (b c : List UInt8) (hb : b.length = 256) (hc : c.length = 256) : LC Tryz.prog 78 [.a (bs b), .a (bs c)] [] (fun v hp => v = .a (bs (thenL b c)) ∧ hp = []) := by
  refine LC_of (X := XX (fun _ => .nil) (fun _ => []) [33, 34, 35, 36, 39, 45, 53, 54, 65, 75, 90, 91, 92, 104] 0) envOK Tryz.func78 (by kernel_rfl) (by kernel_rfl) rfl (Nat.le_of_ble_eq_true (by kernel_rfl)) ?_
  simp only [kFun, Tryz.f78, List.length_nil, List.length_cons, Nat.sub_zero, Nat.reduceSub, Nat.reduceAdd, List.nil_append, List.cons_append, List.replicate_succ, List.replicate_zero]
  simp only [XX, ↓VC, VP, TT, Nat.reduceEqDiff, reduceCtorEq, Nat.reduceAdd, Nat.reduceSub, Nat.reduceLT, Nat.reduceMul, Nat.reducePow, Nat.reduceLeDiff, Int.reduceToNat, Int.reduceLE, Int.reduceLT, Int.reducePow, hb, hc]
  refine kLoop_of (fun i : Nat => ([.j, .j, .p 0 0, .p 1 0, .p 2 0, .p 3 0, .c (.int .i64 (i)), .j, .j, .j, .j, .j, .j, .j, .j, .j, .j, .j, .j, .j], [⟨true, bs b⟩, ⟨true, bs c⟩, ⟨true, bs (List.replicate 256 0)⟩, ⟨true, bs (fl 256 (fun _ => 0) (fun i => c.getD (b.getD i 0).toNat 0) i)⟩])) (fun i => 256 - i) (fun i => i ≤ 256) 0 (by omega)
    ⟨[0, 1, 2, 3], by rw [← fl_zero]; simp [-List.reduceReplicate, LES]⟩ ?_
  intro i hi
  rcases Nat.lt_or_ge i 256 with h | h
  · simp only [↓VC, VP, TT, Nat.reduceEqDiff, reduceCtorEq, Nat.reduceAdd, Nat.reduceSub, Nat.reduceLT, Nat.reduceMul, Nat.reducePow, Nat.reduceLeDiff, Int.reduceToNat, Int.reduceLE, Int.reduceLT, Int.reducePow, hb, hc, fl_len, fl_at, fl_set, h, (eq_true (by omega) : ((i : Int) < 256) = True), (eq_true (by omega) : ((i : Int) < ((256 : Nat) : Int)) = True), wrap_i64 (n := (i : Int) + 1) (by omega) (by omega), decide_true, u8n_lt, int_lt_256]
    exact ⟨i + 1, by omega, by omega, [0, 1, 2, 3], by simp [-List.reduceReplicate, LES]⟩
  · obtain rfl : i = 256 := by omega
    simp only [↓VC, VP, TT, Nat.reduceEqDiff, reduceCtorEq, Nat.reduceAdd, Nat.reduceSub, Nat.reduceLT, Nat.reduceMul, Nat.reducePow, Nat.reduceLeDiff, Int.reduceToNat, Int.reduceLE, Int.reduceLT, Int.reducePow, hb, hc, fl_len, (eq_false (by omega) : (((256 : Nat) : Int) < 256) = False), decide_false]
    rw [fl_done]; refine ⟨_, _, [], ⟨rfl, rfl⟩, ?_⟩; simp [-List.reduceReplicate, LES, thenL]
theorem c_spec_UnitMatrix : LC Tryz.prog 100 [] [] (fun v hp => v = .a (bs (unP 4)) ∧ hp = []) := by
  refine LC_of (X := XX (fun _ => .nil) (fun _ => []) [33, 34, 35, 36, 39, 45, 53, 54, 65, 75, 90, 91, 92, 104] 0) envOK Tryz.func100 (by kernel_rfl) (by kernel_rfl) rfl (Nat.le_of_ble_eq_true (by kernel_rfl)) ?_
  simp only [kFun, Tryz.f100, List.length_nil, List.length_cons, Nat.sub_zero, Nat.reduceSub, Nat.reduceAdd, List.nil_append, List.cons_append, List.replicate_succ, List.replicate_zero]
  simp only [XX, ↓VC, VP, TT, Nat.reduceEqDiff, reduceCtorEq, Nat.reduceAdd, Nat.reduceSub, Nat.reduceLT, Nat.reduceMul, Nat.reducePow, Nat.reduceLeDiff, Int.reduceToNat, Int.reduceLE, Int.reduceLT, Int.reducePow]
  refine kLoop_of (fun i : Nat => ([.p 0 0, .p 1 0, .c (.int .i64 (i)), .j, .j, .j, .j, .j, .j, .j, .j, .j, .j], [⟨true, bs (List.replicate 16 0)⟩, ⟨true, bs (unP i)⟩])) (fun i => 4 - i) (fun i => i ≤ 4) 0 (by omega)
    ⟨[0, 1], by simp [-List.reduceReplicate, LES, unP]⟩ ?_
  intro i hi
  rcases Nat.lt_or_ge i 4 with h | h
  · simp only [↓VC, VP, TT, Nat.reduceEqDiff, reduceCtorEq, Nat.reduceAdd, Nat.reduceSub, Nat.reduceLT, Nat.reduceMul, Nat.reducePow, Nat.reduceLeDiff, Int.reduceToNat, Int.reduceLE, Int.reduceLT, Int.reducePow, unP_len, inU8_one, ofInt_one, h, (eq_true (by omega) : ((i : Int) < 4) = True), (eq_true (by omega) : ((i : Int) < ((4 : Nat) : Int)) = True), wrap_i64 (n := (i : Int) + 1) (by omega) (by omega), decide_true, (eq_true (by omega) : (i * 4 + i < 16) = True)]
    exact ⟨i + 1, by omega, by omega, [0, 1], by simp [-List.reduceReplicate, LES, unP]⟩
  · obtain rfl : i = 4 := by omega
    simp only [↓VC, VP, TT, Nat.reduceEqDiff, reduceCtorEq, Nat.reduceAdd, Nat.reduceSub, Nat.reduceLT, Nat.reduceMul, Nat.reducePow, Nat.reduceLeDiff, Int.reduceToNat, Int.reduceLE, Int.reduceLT, Int.reducePow, unP_len, (eq_false (by omega) : (((4 : Nat) : Int) < 4) = False), decide_false]
    refine ⟨_, _, [], ⟨rfl, rfl⟩, ?_⟩; simp [-List.reduceReplicate, LES]
theorem c_impl_UnitMatrix : LC Tryz.prog 88 [] [] (fun v hp => v = .a (bs (unP 4)) ∧ hp = []) := by
  refine LC_of (X := XX (fun _ => .nil) (fun _ => []) [33, 34, 35, 36, 39, 45, 53, 54, 65, 75, 90, 91, 92, 104] 0) envOK Tryz.func88 (by kernel_rfl) (by kernel_rfl) rfl (Nat.le_of_ble_eq_true (by kernel_rfl)) ?_
  simp only [kFun, Tryz.f88, List.length_nil, List.length_cons, Nat.sub_zero, Nat.reduceSub, Nat.reduceAdd, List.nil_append, List.cons_append, List.replicate_succ, List.replicate_zero]
  simp only [XX, ↓VC, VP, TT, Nat.reduceEqDiff, reduceCtorEq, Nat.reduceAdd, Nat.reduceSub, Nat.reduceLT, Nat.reduceMul, Nat.reducePow, Nat.reduceLeDiff, Int.reduceToNat, Int.reduceLE, Int.reduceLT, Int.reducePow]
  refine kLoop_of (fun i : Nat => ([.p 0 0, .p 1 0, .j, .j, .c (.int .i64 (i)), .j, .j, .j, .j, .j, .j, .j, .j], [⟨true, bs (List.replicate 16 0)⟩, ⟨true, bs (unP i)⟩])) (fun i => 4 - i) (fun i => i ≤ 4) 0 (by omega)
    ⟨[0, 1], by simp [-List.reduceReplicate, LES, unP]⟩ ?_
  intro i hi
  rcases Nat.lt_or_ge i 4 with h | h
  · simp only [↓VC, VP, TT, Nat.reduceEqDiff, reduceCtorEq, Nat.reduceAdd, Nat.reduceSub, Nat.reduceLT, Nat.reduceMul, Nat.reducePow, Nat.reduceLeDiff, Int.reduceToNat, Int.reduceLE, Int.reduceLT, Int.reducePow, unP_len, inU8_one, ofInt_one, h, (eq_true (by omega) : ((i : Int) < 4) = True), (eq_true (by omega) : ((i : Int) < ((4 : Nat) : Int)) = True), wrap_i64 (n := (i : Int) + 1) (by omega) (by omega), decide_true, (eq_true (by omega) : (i * 4 + i < 16) = True)]
    exact ⟨i + 1, by omega, by omega, [0, 1], by simp [-List.reduceReplicate, LES, unP]⟩
  · obtain rfl : i = 4 := by omega
    simp only [↓VC, VP, TT, Nat.reduceEqDiff, reduceCtorEq, Nat.reduceAdd, Nat.reduceSub, Nat.reduceLT, Nat.reduceMul, Nat.reducePow, Nat.reduceLeDiff, Int.reduceToNat, Int.reduceLE, Int.reduceLT, Int.reducePow, unP_len, (eq_false (by omega) : (((4 : Nat) : Int) < 4) = False), decide_false]
    refine ⟨_, _, [], ⟨rfl, rfl⟩, ?_⟩; simp [-List.reduceReplicate, LES]
theorem turn_tab : ∀ k, k < 8 → ∀ x, x < 256 → IntKind.u8.wrap (bitI .and .i64 (bitI .or .i64 (IntKind.i64.wrap ((x : Nat) * 2 ^ min k 64)) ((IntKind.i64.wrap ((x : Nat) * 2 ^ min k 64)).fdiv (2 ^ min 8 64))) 255) = (rotN x k : Nat) := by decide +kernel
theorem c_spec_l02Turn (u : UInt8) (k : Nat) (hk : k < 8) : LC Tryz.prog 96 [.c (.int .u8 ((u).toNat : Int)), .c (.int .i64 (k))] [] (fun v hp => v = .c (.int .u8 ((rot8 u k).toNat : Int)) ∧ hp = []) := by
  refine LC_of (X := XX (fun _ => .nil) (fun _ => []) [33, 34, 35, 36, 39, 45, 53, 54, 65, 75, 90, 91, 92, 104] 0) envOK Tryz.func96 (by kernel_rfl) (by kernel_rfl) rfl (Nat.le_of_ble_eq_true (by kernel_rfl)) ?_
  simp only [kFun, Tryz.f96, List.length_nil, List.length_cons, Nat.sub_zero, Nat.reduceSub, Nat.reduceAdd, List.nil_append, List.cons_append, List.replicate_succ, List.replicate_zero]
  simp only [XX, ↓VC, VP, TT, Nat.reduceEqDiff, reduceCtorEq, Nat.reduceAdd, Nat.reduceSub, Nat.reduceLT, Nat.reduceMul, Nat.reducePow, Nat.reduceLeDiff, Int.reduceToNat, Int.reduceLE, Int.reduceLT, Int.reducePow]
  have hu := u.toNat_lt
  rw [wrap_i64 (n := ((u.toNat : Nat) : Int)) (by omega) (by omega), wrap_u64 (n := (k : Int)) (by omega) (by omega), Int.toNat_natCast, turn_tab k hk _ hu, ← rot8_nat u hk]
  refine ⟨by omega, ?_⟩
  refine ⟨_, _, [], ⟨rfl, rfl⟩, ?_⟩; simp [-List.reduceReplicate, LES]
theorem rotl_tab : ∀ k, k < 8 → ∀ x, x < 256 → bitI .or .u8 (IntKind.u8.wrap ((x : Nat) * 2 ^ min k 8)) (((x : Nat) : Int).fdiv (2 ^ min (8 - k) 8)) = (rotN x k : Nat) := by decide +kernel
theorem rotl_k : ∀ k, k < 8 → bitI .and .u64 (IntKind.u64.wrap (k : Nat)) 7 = (k : Nat) ∧ (IntKind.u64.wrap (8 - (k : Nat))) = ((8 - k : Nat) : Int) := by decide +kernel
theorem c_RotateLeft8 (u : UInt8) (k : Nat) (hk : k < 8) : LC Tryz.prog 77 [.c (.int .u8 ((u).toNat : Int)), .c (.int .i64 (k))] [] (fun v hp => v = .c (.int .u8 ((rot8 u k).toNat : Int)) ∧ hp = []) := by
  refine LC_of (X := XX (fun _ => .nil) (fun _ => []) [33, 34, 35, 36, 39, 45, 53, 54, 65, 75, 90, 91, 92, 104] 0) envOK Tryz.func77 (by kernel_rfl) (by kernel_rfl) rfl (Nat.le_of_ble_eq_true (by kernel_rfl)) ?_
  simp only [kFun, Tryz.f77, List.length_nil, List.length_cons, Nat.sub_zero, Nat.reduceSub, Nat.reduceAdd, List.nil_append, List.cons_append, List.replicate_succ, List.replicate_zero]
  simp only [XX, ↓VC, VP, TT, Nat.reduceEqDiff, reduceCtorEq, Nat.reduceAdd, Nat.reduceSub, Nat.reduceLT, Nat.reduceMul, Nat.reducePow, Nat.reduceLeDiff, Int.reduceToNat, Int.reduceLE, Int.reduceLT, Int.reducePow]
  obtain ⟨e1, e2⟩ := rotl_k k hk
  rw [e1, e2, Int.toNat_natCast, Int.toNat_natCast, rotl_tab k hk _ u.toNat_lt, ← rot8_nat u hk]
  refine ⟨by omega, by omega, ?_⟩
  refine ⟨_, _, [], ⟨rfl, rfl⟩, ?_⟩; simp [-List.reduceReplicate, LES]
end Go.Proofs.YtjakgjelnbpmnaaGreat
/- Mixing: the reference multiplies, the program looks up its tables; the tables. -/
set_option linter.unusedSimpArgs false
set_option linter.unusedVariables false
namespace Go.Proofs.YtjakgjelnbpmnaaGreat
open Go Go.Vc
set_option maxRecDepth 10000
theorem mixB_succ {m : Nat} {A s : List UInt8} {c i : Nat} (hi : i < 4) (j : Nat) : mixB m A s (4 * c + i) (j + 1) = mixB m A s (4 * c + i) j ^^^ tmul m (A.getD (i * 4 + j) 0) (s.getD (4 * c + j) 0) := by
  rw [mixB, show (4 * c + i) % 4 = i by omega, show (4 * c + i) / 4 = c by omega]
theorem set_getD {l : List UInt8} {i : Nat} (h : i < l.length) (v : UInt8) : (l.set i v).getD i 0 = v := by simp [List.getD, h]
theorem fl_set_same {n : Nat} {f0 g : Nat → UInt8} {i : Nat} (h : i < n) : (fl n f0 g i).set i (f0 i) = fl n f0 g i := by
  apply List.ext_getElem?
  intro j
  rw [List.getElem?_set]
  by_cases hj : i = j
  · subst hj; rw [if_pos rfl, fl_len, if_pos h, getD_lt (by rw [fl_len]; exact h), fl_at h]
  · rw [if_neg hj]
end Go.Proofs.YtjakgjelnbpmnaaGreat
/- Mixing by tables. -/
set_option linter.unusedSimpArgs false
set_option linter.unusedVariables false
namespace Go.Proofs.YtjakgjelnbpmnaaGreat
open Go Go.Vc
set_option maxRecDepth 10000
set_option maxHeartbeats 1000000
theorem tab_at {m : Nat} {A : List UInt8} {i k : Nat} (hi : i < 4) (hk : k < 4) (u : UInt8) : (tabL m A).getD (i * 1024 + k * 256 + u.toNat) 0 = tmul m (A.getD (i * 4 + k) 0) u := by
  rw [← tabL_get (m := m) (A := A) (k := i * 4 + k) (by omega) u, show (i * 4 + k) * 256 + u.toNat = i * 1024 + k * 256 + u.toNat by omega]
theorem c_mix (m : Nat) (A s : List UInt8) (N q : Nat) (hN : N = 4 * q) (hq : q ≤ 4) (hs : s.length = N) : LC Tryz.prog 90 [.p 0 0, .s 1 0 N N] [⟨false, bs (tabL m A)⟩, ⟨true, bs s⟩]
    (RetM (fun _ : Unit => True) fun _ => (.t [], [⟨false, bs (tabL m A)⟩, ⟨true, bs (mixL N m A s)⟩], [])) := by
  refine LC_of (X := XX (fun | 3 => .one 0 (.one 1 (.one 2 (.one 3 (.one 4 (.one 5 (.one 6 (.one 7 (.one 8 (.one 9 (.one 10 (.one 11 (.one 12 (.one 13 (.one 14 (.one 15 (.one 16 (.one 17 (.one 18 (.one 19 (.one 20 (.one 21 (.one 22 .nil)))))))))))))))))))))) | 7 => .one 0 (.one 1 (.one 2 (.one 3 (.one 4 (.one 5 (.one 6 (.one 7 (.one 8 (.one 9 (.one 10 (.one 11 (.one 12 (.one 13 (.one 14 (.one 15 (.one 16 (.one 17 (.one 18 (.one 19 (.one 20 (.one 21 (.one 22 (.one 23 (.one 24 (.one 25 (.one 26 (.one 27 (.one 28 (.one 29 (.one 30 (.one 31 (.one 32 (.one 33 (.one 34 (.one 35 (.one 36 (.one 37 (.one 38 (.one 39 (.one 40 .nil)))))))))))))))))))))))))))))))))))))))) | _ => .nil) (fun _ => []) [33, 34, 35, 36, 39, 45, 53, 54, 65, 75, 90, 91, 92, 104] 2) envOK Tryz.func90 (by kernel_rfl) (by kernel_rfl) rfl (Nat.le_of_ble_eq_true (by kernel_rfl)) ?_
  simp only [kFun, Tryz.f90, List.length_nil, List.length_cons, Nat.sub_zero, Nat.reduceSub, Nat.reduceAdd, List.nil_append, List.cons_append, List.replicate_succ, List.replicate_zero]
  simp only [XX, ↓VC, VP, TT, Nat.reduceEqDiff, reduceCtorEq, Nat.reduceAdd, Nat.reduceSub, Nat.reduceLT, Nat.reduceMul, Nat.reducePow, Nat.reduceLeDiff, Int.reduceToNat, Int.reduceLE, Int.reduceLT, Int.reducePow]
  refine kLoop_of (fun c : Nat => ([.p 0 0, .s 1 0 N N, .j, .j, .c (.int .i64 ((4 * c : Nat))), .j, .j, .j, .j, .j, .j, .j, .j, .j, .j, .j, .j, .j, .j, .j, .j, .j, .j, .j, .j, .j, .j, .j, .j, .j, .j, .j, .j, .j, .j, .j, .j, .j, .j, .j, .j, .j, .j, .j, .j, .j, .j, .j, .j, .j, .j, .j, .j, .j, .j, .j, .j, .j, .j, .j, .j, .j, .j, .j, .j, .j, .j, .j, .j, .j, .j, .j, .j, .j, .j, .j, .j, .j, .j], [⟨false, bs (tabL m A)⟩, ⟨true, bs (fl N (fun x => s.getD x 0) (fun x => mixB m A s x 4) (4 * c))⟩])) (fun c => q - c) (fun c => c ≤ q) 0 (by omega)
    ⟨[0, 1], by rw [← fl_start hs]; simp [-List.reduceReplicate, LES]⟩ ?_
  intro c hc
  rcases Nat.lt_or_ge c q with h | h
  · have w1 : IntKind.i64.wrap (((4 * c : Nat) : Int) + 1) = ((4 * c + 1 : Nat) : Int) := by rw [wrap_i64 (by omega) (by omega)]; omega
    have w2 : IntKind.i64.wrap (((4 * c : Nat) : Int) + 2) = ((4 * c + 2 : Nat) : Int) := by rw [wrap_i64 (by omega) (by omega)]; omega
    have w3 : IntKind.i64.wrap (((4 * c : Nat) : Int) + 3) = ((4 * c + 3 : Nat) : Int) := by rw [wrap_i64 (by omega) (by omega)]; omega
    have w4 : IntKind.i64.wrap (((4 * c : Nat) : Int) + 4) = ((4 * (c + 1) : Nat) : Int) := by rw [wrap_i64 (by omega) (by omega)]; omega
    have ge0 : ∀ k, k < 4 → (fl N (fun x => s.getD x 0) (fun x => mixB m A s x 4) (4 * c)).getD (4 * c + k) 0 = s.getD (4 * c + k) 0 := fun k hk => by
      rw [fl_get (by omega), if_neg (by omega)]
    have g0 := ge0 0 (by omega)
    rw [Nat.add_zero] at g0
    simp only [↓VC, VP, TT, Nat.reduceEqDiff, reduceCtorEq, Nat.reduceAdd, Nat.reduceSub, Nat.reduceLT, Nat.reduceMul, Nat.reducePow, Nat.reduceLeDiff, Int.reduceToNat, Int.reduceLE, Int.reduceLT, Int.reducePow, w1, w2, w3, fl_len, decide_true, g0, ge0 1 (by omega), ge0 2 (by omega), ge0 3 (by omega), (eq_true (by omega) : (((4 * c : Nat) : Int) < (N : Int)) = True), (eq_true (by omega) : (((4 * c + 1 : Nat) : Int) < (N : Int)) = True), (eq_true (by omega) : (((4 * c + 2 : Nat) : Int) < (N : Int)) = True), (eq_true (by omega) : (((4 * c + 3 : Nat) : Int) < (N : Int)) = True),
      (eq_true (by omega) : (4 * c < N) = True), (eq_true (by omega) : (4 * c + 1 < N) = True), (eq_true (by omega) : (4 * c + 2 < N) = True), (eq_true (by omega) : (4 * c + 3 < N) = True)]
    refine kLoop_of (fun i : Nat => ([.p 0 0, .s 1 0 N N, .j, .j, .c (.int .i64 ((4 * c : Nat))), .c (.int .u8 ((s.getD (4 * c) 0).toNat : Int)), .c (.int .u8 ((s.getD (4 * c + 1) 0).toNat : Int)), .c (.int .u8 ((s.getD (4 * c + 2) 0).toNat : Int)), .c (.int .u8 ((s.getD (4 * c + 3) 0).toNat : Int)), .j, .j, .j, .j, .j, .j, .j, .j, .j, .j, .j, .j, .j, .j, .j, .j, .j, .j, .j, .j, .j, .j, .j, .j, .j, .j, .c (.int .i64 (i)), .j, .j, .j, .j, .j, .j, .j, .j, .j, .j, .j, .j, .j, .j, .j, .j, .j, .j, .j, .j, .j, .j, .j, .j, .j, .j, .j, .j, .j, .j, .j, .j, .j, .j, .j, .j, .j, .j, .j, .j, .j, .j, .j], [⟨false, bs (tabL m A)⟩, ⟨true, bs (fl N (fun x => s.getD x 0) (fun x => mixB m A s x 4) (4 * c + i))⟩])) (fun i => 4 - i) (fun i => i ≤ 4) 0 (by omega)
      ⟨[0, 1], by simp [-List.reduceReplicate, LES]⟩ ?_
    intro i hi
    rcases Nat.lt_or_ge i 4 with h2 | h2
    · have w5 : IntKind.i64.wrap (((4 * c : Nat) : Int) + i) = ((4 * c + i : Nat) : Int) := by rw [wrap_i64 (by omega) (by omega)]; omega
      have hu : ∀ k, k < 4 → i * 1024 + k * 256 + (s.getD (4 * c + k) 0).toNat < 4096 := fun k hk => by
        have := (s.getD (4 * c + k) 0).toNat_lt; omega
      have t0 := tab_at (m := m) (A := A) h2 (k := 0) (by omega) (s.getD (4 * c) 0)
      have t1 := tab_at (m := m) (A := A) h2 (k := 1) (by omega) (s.getD (4 * c + 1) 0)
      have t2 := tab_at (m := m) (A := A) h2 (k := 2) (by omega) (s.getD (4 * c + 2) 0)
      have t3 := tab_at (m := m) (A := A) h2 (k := 3) (by omega) (s.getD (4 * c + 3) 0)
      have u0 := hu 0 (by omega); have u1 := hu 1 (by omega); have u2 := hu 2 (by omega); have u3 := hu 3 (by omega)
      simp only [Nat.zero_mul, Nat.one_mul, Nat.add_zero, Nat.reduceMul] at t0 t1 t2 t3 u0 u1 u2 u3
      have hb : ∀ u : UInt8, ((u.toNat : Int) < ((256 : Nat) : Int)) = True := fun u => eq_true (by have := u.toNat_lt; omega)
      simp only [↓VC, VP, TT, Nat.reduceEqDiff, reduceCtorEq, Nat.reduceAdd, Nat.reduceSub, Nat.reduceLT, Nat.reduceMul, Nat.reducePow, Nat.reduceLeDiff, Int.reduceToNat, Int.reduceLE, Int.reduceLT, Int.reducePow, h2, (eq_true (by omega) : ((i : Int) < 4) = True), (eq_true (by omega) : ((i : Int) < ((4 : Nat) : Int)) = True), wrap_i64 (n := (i : Int) + 1) (by omega) (by omega), decide_true, w5, fl_len, tabL_len, hb, Nat.add_zero, t0, t1, t2, t3, u0, u1, u2, u3, (eq_true (by omega) : (((4 * c + i : Nat) : Int) < (N : Int)) = True), (eq_true (by omega) : (4 * c + i < N) = True)]
      refine ⟨by omega, by omega, by omega, by omega, i + 1, by omega, by omega, [0, 1], ?_⟩
      rw [fl_set (by omega) (by rw [mixB_four, show (4 * c + i) % 4 = i by omega, show (4 * c + i) / 4 = c by omega])]
      simp [-List.reduceReplicate, LES]; exact .inr rfl
    · obtain rfl : i = 4 := by omega
      simp only [↓VC, VP, TT, Nat.reduceEqDiff, reduceCtorEq, Nat.reduceAdd, Nat.reduceSub, Nat.reduceLT, Nat.reduceMul, Nat.reducePow, Nat.reduceLeDiff, Int.reduceToNat, Int.reduceLE, Int.reduceLT, Int.reducePow, (eq_false (by omega) : (((4 : Nat) : Int) < 4) = False), decide_false, w4]
      exact ⟨c + 1, by omega, by omega, [0, 1], by simp [-List.reduceReplicate, LES]; exact .inr rfl⟩
  · obtain rfl : c = q := by omega
    simp only [↓VC, VP, TT, Nat.reduceEqDiff, reduceCtorEq, Nat.reduceAdd, Nat.reduceSub, Nat.reduceLT, Nat.reduceMul, Nat.reducePow, Nat.reduceLeDiff, Int.reduceToNat, Int.reduceLE, Int.reduceLT, Int.reducePow, (eq_false (by omega) : (((4 * c : Nat) : Int) < (N : Int)) = False), decide_false]
    subst hN
    rw [fl_done]
    refine ⟨_, _, [0, 1], ⟨(), trivial, rfl, rfl⟩, ?_⟩
    simp [-List.reduceReplicate, LES, mixL]
end Go.Proofs.YtjakgjelnbpmnaaGreat
/- The tables. -/
set_option linter.unusedSimpArgs false
set_option linter.unusedVariables false
namespace Go.Proofs.YtjakgjelnbpmnaaGreat
open Go Go.Vc
set_option maxRecDepth 10000
set_option maxHeartbeats 1000000
theorem or_tab : ∀ k, k < 8 → ∀ l, l < 128 → l < 2 ^ k → bitI .or .i64 ((2 ^ k : Nat) : Int) (l : Nat) = ((2 ^ k + l : Nat) : Int) ∧ UInt8.ofInt ((2 ^ k : Nat) : Int) ^^^ UInt8.ofInt ((l : Nat) : Int) = UInt8.ofInt ((2 ^ k + l : Nat) : Int) := by decide +kernel
theorem pow8 : ∀ k, k < 8 → 2 ^ k ≤ 128 := by decide
theorem row_get {A : List UInt8} {i j : Nat} (hj : j < 4) (hA : A.length = 16) (hi : i < 4) : ((A.drop (i * 4)).take 4).getD j 0 = A.getD (i * 4 + j) 0 := by
  simp [List.getD, List.getElem?_take, hj]
theorem c_newMixer (m : Nat) (A : List UInt8) (hm : 256 ≤ m) (hm' : m < 512) (hA : A.length = 16) : LC Tryz.prog 71 [.c (.int .i64 (m)), .a (bs A)] [] (Ret [] (fun _ : Unit => True) fun _ => (.p 0 0, [⟨true, bs (tabL m A)⟩])) := by
  refine LC_of (X := XX (fun | 15 => .one 0 (.one 1 (.one 2 (.one 3 (.one 4 (.one 5 (.one 6 (.one 7 (.one 8 (.one 9 (.one 10 (.one 11 (.one 12 (.one 13 (.one 14 (.one 15 (.one 16 (.one 17 (.one 18 (.one 19 (.one 20 (.one 21 .nil))))))))))))))))))))) | _ => .nil) (fun _ => []) [33, 34, 35, 36, 39, 45, 53, 54, 65, 75, 90, 91, 92, 104] 0) envOK Tryz.func71 (by kernel_rfl) (by kernel_rfl) rfl (Nat.le_of_ble_eq_true (by kernel_rfl)) ?_
  simp only [kFun, Tryz.f71, List.length_nil, List.length_cons, Nat.sub_zero, Nat.reduceSub, Nat.reduceAdd, List.nil_append, List.cons_append, List.replicate_succ, List.replicate_zero]
  simp only [XX, ↓VC, VP, TT, Nat.reduceEqDiff, reduceCtorEq, Nat.reduceAdd, Nat.reduceSub, Nat.reduceLT, Nat.reduceMul, Nat.reducePow, Nat.reduceLeDiff, Int.reduceToNat, Int.reduceLE, Int.reduceLT, Int.reducePow, hA]
  refine kLoop_of (fun i : Nat => ([.c (.int .i64 (m)), .j, .j, .p 0 0, .j, .p 1 0, .j, .j, .j, .j, .j, .j, .j, .j, .c (.int .i64 (i)), .j, .j, .j, .j, .j, .j, .j, .j, .j, .j, .j, .j, .j, .j, .j, .j, .j, .j, .j, .j, .j, .j, .j, .j, .j, .j, .j, .j, .j, .j, .j, .j, .j, .j, .j, .j, .j, .j, .j, .j, .j, .j, .j, .j, .j, .j, .j], [⟨true, bs A⟩, ⟨true, bs (fl 4096 (fun _ => 0) (tabB m A) (1024 * i))⟩])) (fun i => 4 - i) (fun i => i ≤ 4) 0 (by omega)
    ⟨[0, 1], by rw [Nat.mul_zero, ← fl_zero]; simp [-List.reduceReplicate, LES]⟩ ?_
  intro i hi
  rcases Nat.lt_or_ge i 4 with h | h
  · simp only [↓VC, VP, TT, Nat.reduceEqDiff, reduceCtorEq, Nat.reduceAdd, Nat.reduceSub, Nat.reduceLT, Nat.reduceMul, Nat.reducePow, Nat.reduceLeDiff, Int.reduceToNat, Int.reduceLE, Int.reduceLT, Int.reducePow, hA, h, (eq_true (by omega) : ((i : Int) < 4) = True), (eq_true (by omega) : ((i : Int) < ((4 : Nat) : Int)) = True), wrap_i64 (n := (i : Int) + 1) (by omega) (by omega), decide_true, (eq_true (by omega) : (i * 4 + 4 ≤ 16) = True)]
    refine kLoop_of (fun j : Nat => ([.c (.int .i64 (m)), .j, .j, .p 0 0, .j, .p 1 0, .c (.int .i64 (i)), .j, .j, .j, .j, .j, .j, .j, .c (.int .i64 (i)), .j, .j, .j, .j, .a (bs ((A.drop (i * 4)).take 4)), .c (.int .i64 (j)), .j, .j, .j, .j, .j, .j, .j, .j, .j, .j, .j, .j, .j, .j, .j, .j, .j, .j, .j, .j, .j, .j, .j, .j, .j, .j, .j, .j, .j, .j, .j, .j, .j, .j, .j, .j, .j, .j, .j, .j, .j], [⟨true, bs A⟩, ⟨true, bs (fl 4096 (fun _ => 0) (tabB m A) (1024 * i + 256 * j))⟩])) (fun j => 4 - j) (fun j => j ≤ 4) 0 (by omega)
      ⟨[0, 1], by simp [-List.reduceReplicate, LES]⟩ ?_
    intro j hj
    rcases Nat.lt_or_ge j 4 with h2 | h2
    · have hrl : ((A.drop (i * 4)).take 4).length = 4 := by rw [List.length_take, List.length_drop]; omega
      simp only [↓VC, VP, TT, Nat.reduceEqDiff, reduceCtorEq, Nat.reduceAdd, Nat.reduceSub, Nat.reduceLT, Nat.reduceMul, Nat.reducePow, Nat.reduceLeDiff, Int.reduceToNat, Int.reduceLE, Int.reduceLT, Int.reducePow, hrl, h2, (eq_true (by omega) : ((j : Int) < 4) = True), (eq_true (by omega) : ((j : Int) < ((4 : Nat) : Int)) = True), wrap_i64 (n := (j : Int) + 1) (by omega) (by omega), decide_true, row_get h2 hA h]
      refine kLoop_of (fun k : Nat => ([.c (.int .i64 (m)), .j, .j, .p 0 0, .j, .p 1 0, .c (.int .i64 (i)), .c (.int .i64 (j)), .c (.int .u8 ((A.getD (i * 4 + j) 0).toNat : Int)), .c (.int .i64 ((2 ^ k : Nat))), .j, .j, .j, .j, .c (.int .i64 (i)), .j, .j, .j, .j, .a (bs ((A.drop (i * 4)).take 4)), .c (.int .i64 (j)), .j, .j, .j, .j, .j, .j, .j, .j, .j, .j, .j, .j, .j, .j, .j, .j, .j, .j, .j, .j, .j, .j, .j, .j, .j, .j, .j, .j, .j, .j, .j, .j, .j, .j, .j, .j, .j, .j, .j, .j, .j], [⟨true, bs A⟩, ⟨true, bs (fl 4096 (fun _ => 0) (tabB m A) (1024 * i + 256 * j + 2 ^ k))⟩])) (fun k => 8 - k) (fun k => k ≤ 8) 0 (by omega)
        ⟨[0, 1], by
          have e : fl 4096 (fun _ => 0) (tabB m A) (1024 * i + 256 * j + 2 ^ 0) = fl 4096 (fun _ => 0) (tabB m A) (1024 * i + 256 * j) := by
            have h0 : tabB m A (1024 * i + 256 * j) = 0 := by
              unfold tabB; rw [show (1024 * i + 256 * j) % 256 = 0 by omega]; exact tmul_zero' _ _
            have h1 := fl_set (n := 4096) (f0 := fun _ => 0) (g := tabB m A) (i := 1024 * i + 256 * j) (v := 0) (by omega) h0.symm
            have h2 := fl_set_same (n := 4096) (f0 := fun _ => 0) (g := tabB m A) (i := 1024 * i + 256 * j) (by omega)
            rw [show 2 ^ 0 = 1 from rfl, ← h1]; exact h2
          rw [e]; simp [-List.reduceReplicate, LES]⟩ ?_
      intro k hk
      rcases Nat.lt_or_ge k 8 with h3 | h3
      · have hp := pow8 k h3
        have hp0 : 0 < 2 ^ k := Nat.two_pow_pos k
        have hconv : IntKind.u8.wrap (((2 ^ k : Nat) : Int)) = (((UInt8.ofInt ((2 ^ k : Nat) : Int)).toNat : Nat) : Int) := wrap_u8 _
        simp only [↓VC, VP, TT, Nat.reduceEqDiff, reduceCtorEq, Nat.reduceAdd, Nat.reduceSub, Nat.reduceLT, Nat.reduceMul, Nat.reducePow, Nat.reduceLeDiff, Int.reduceToNat, Int.reduceLE, Int.reduceLT, Int.reducePow, (eq_true (by omega) : (((2 ^ k : Nat) : Int) < 256) = True), decide_true, hconv]
        refine kCall_val (c_impl_times m (A.getD (i * 4 + j) 0) (UInt8.ofInt ((2 ^ k : Nat) : Int)) hm hm') (by rfl) [] (by simp [CALL]) (by simp [CALL, cellsAt]) (by simp [CALL]) (by simp [okL_bs]) ?_
        simp only [CALL, ↓VC, VP, TT, Nat.reduceEqDiff, reduceCtorEq, Nat.reduceAdd, Nat.reduceSub, Nat.reduceLT, Nat.reduceMul, Nat.reducePow, Nat.reduceLeDiff, Int.reduceToNat, Int.reduceLE, Int.reduceLT, Int.reducePow]
        refine kLoop_of (fun l : Nat => ([.c (.int .i64 (m)), .j, .j, .p 0 0, .j, .p 1 0, .c (.int .i64 (i)), .c (.int .i64 (j)), .c (.int .u8 ((A.getD (i * 4 + j) 0).toNat : Int)), .c (.int .i64 ((2 ^ k : Nat))), .c (.int .u8 ((tmul m (A.getD (i * 4 + j) 0) (UInt8.ofInt ((2 ^ k : Nat) : Int))).toNat : Int)), .j, .j, .j, .c (.int .i64 (i)), .j, .j, .j, .j, .a (bs ((A.drop (i * 4)).take 4)), .c (.int .i64 (j)), .j, .j, .j, .j, .j, .j, .j, .j, .j, .j, .j, .j, .c (.int .i64 ((2 ^ k : Nat))), .c (.int .i64 (l)), .j, .j, .j, .j, .j, .j, .j, .j, .j, .j, .j, .j, .j, .j, .j, .j, .j, .j, .j, .j, .j, .j, .j, .j, .j, .j, .j], [⟨true, bs A⟩, ⟨true, bs (fl 4096 (fun _ => 0) (tabB m A) (1024 * i + 256 * j + 2 ^ k + l))⟩])) (fun l => 2 ^ k - l) (fun l => l ≤ 2 ^ k) 0 (by omega)
          ⟨[0, 1], by simp [-List.reduceReplicate, LES]⟩ ?_
        intro l hl
        rcases Nat.lt_or_ge l (2 ^ k) with h4 | h4
        · obtain ⟨o1, o2⟩ := or_tab k h3 l (by omega) h4
          have e1 : (fl 4096 (fun _ => 0) (tabB m A) (1024 * i + 256 * j + 2 ^ k + l)).getD (i * 1024 + j * 256 + l) 0 = tabB m A (1024 * i + 256 * j + l) := by
            rw [fl_get (by omega), if_pos (by omega), show i * 1024 + j * 256 + l = 1024 * i + 256 * j + l by omega]
          have e2 : tmul m (A.getD (i * 4 + j) 0) (UInt8.ofInt ((2 ^ k : Nat) : Int)) ^^^ tabB m A (1024 * i + 256 * j + l) = tabB m A (1024 * i + 256 * j + 2 ^ k + l) := by
            unfold tabB
            rw [show (1024 * i + 256 * j + l) / 256 = i * 4 + j by omega, show (1024 * i + 256 * j + l) % 256 = l by omega, show (1024 * i + 256 * j + 2 ^ k + l) / 256 = i * 4 + j by omega,
              show (1024 * i + 256 * j + 2 ^ k + l) % 256 = 2 ^ k + l by omega, ← tmul_xor, o2]
          simp only [↓VC, VP, TT, Nat.reduceEqDiff, reduceCtorEq, Nat.reduceAdd, Nat.reduceSub, Nat.reduceLT, Nat.reduceMul, Nat.reducePow, Nat.reduceLeDiff, Int.reduceToNat, Int.reduceLE, Int.reduceLT, Int.reducePow, fl_len, o1, e1, e2, (eq_true (by omega) : ((l : Int) < ((2 ^ k : Nat) : Int)) = True), decide_true, h, h2, (eq_true (by omega) : ((i : Int) < ((4 : Nat) : Int)) = True), (eq_true (by omega) : ((j : Int) < ((4 : Nat) : Int)) = True),
            (eq_true (by omega) : ((l : Int) < ((256 : Nat) : Int)) = True), (eq_true (by omega) : (((2 ^ k + l : Nat) : Int) < ((256 : Nat) : Int)) = True), (eq_true (by omega) : (i * 1024 + j * 256 + l < 4096) = True), (eq_true (by omega) : (i * 1024 + j * 256 + (2 ^ k + l) < 4096) = True),
            wrap_i64 (n := (l : Int) + 1) (by omega) (by omega)]
          refine ⟨l + 1, by omega, by omega, [0, 1], ?_⟩
          rw [show i * 1024 + j * 256 + (2 ^ k + l) = 1024 * i + 256 * j + 2 ^ k + l by omega, fl_set (by omega) rfl]
          simp [-List.reduceReplicate, LES]; exact .inr rfl
        · obtain rfl : l = 2 ^ k := by omega
          have w2 : IntKind.i64.wrap (((2 ^ k : Nat) : Int) * 2) = ((2 ^ (k + 1) : Nat) : Int) := by rw [wrap_i64 (by omega) (by omega), Nat.pow_succ]; omega
          simp only [↓VC, VP, TT, Nat.reduceEqDiff, reduceCtorEq, Nat.reduceAdd, Nat.reduceSub, Nat.reduceLT, Nat.reduceMul, Nat.reducePow, Nat.reduceLeDiff, Int.reduceToNat, Int.reduceLE, Int.reduceLT, Int.reducePow, (eq_false (by omega) : (((2 ^ k : Nat) : Int) < ((2 ^ k : Nat) : Int)) = False), decide_false, w2]
          refine ⟨k + 1, by omega, by omega, [0, 1], ?_⟩
          rw [show 1024 * i + 256 * j + 2 ^ k + 2 ^ k = 1024 * i + 256 * j + 2 ^ (k + 1) by rw [Nat.pow_succ]; omega]
          simp [-List.reduceReplicate, LES]
      · obtain rfl : k = 8 := by omega
        simp only [↓VC, VP, TT, Nat.reduceEqDiff, reduceCtorEq, Nat.reduceAdd, Nat.reduceSub, Nat.reduceLT, Nat.reduceMul, Nat.reducePow, Nat.reduceLeDiff, Int.reduceToNat, Int.reduceLE, Int.reduceLT, Int.reducePow, (eq_false (by decide) : (((2 ^ 8 : Nat) : Int) < 256) = False), decide_false, wrap_i64 (n := (j : Int) + 1) (by omega) (by omega)]
        refine ⟨j + 1, by omega, by omega, [0, 1], ?_⟩
        rw [show 1024 * i + 256 * j + 2 ^ 8 = 1024 * i + 256 * (j + 1) by omega]
        simp [-List.reduceReplicate, LES]
    · obtain rfl : j = 4 := by omega
      simp only [↓VC, VP, TT, Nat.reduceEqDiff, reduceCtorEq, Nat.reduceAdd, Nat.reduceSub, Nat.reduceLT, Nat.reduceMul, Nat.reducePow, Nat.reduceLeDiff, Int.reduceToNat, Int.reduceLE, Int.reduceLT, Int.reducePow, (eq_false (by omega) : (((4 : Nat) : Int) < 4) = False), decide_false, wrap_i64 (n := (i : Int) + 1) (by omega) (by omega)]
      refine ⟨i + 1, by omega, by omega, [0, 1], ?_⟩
      rw [show 1024 * i + 256 * 4 = 1024 * (i + 1) by omega]
      simp [-List.reduceReplicate, LES]
  · obtain rfl : i = 4 := by omega
    simp only [↓VC, VP, TT, Nat.reduceEqDiff, reduceCtorEq, Nat.reduceAdd, Nat.reduceSub, Nat.reduceLT, Nat.reduceMul, Nat.reducePow, Nat.reduceLeDiff, Int.reduceToNat, Int.reduceLE, Int.reduceLT, Int.reducePow, (eq_false (by omega) : (((4 : Nat) : Int) < 4) = False), decide_false]
    rw [fl_done]
    refine ⟨_, _, [1], ⟨(), trivial, rfl, rfl⟩, ?_⟩
    simp [-List.reduceReplicate, LES, tabL]
end Go.Proofs.YtjakgjelnbpmnaaGreat
/- Keys of rounds, and blocks enciphered: the reference. -/
set_option linter.unusedSimpArgs false
set_option linter.unusedVariables false
namespace Go.Proofs.YtjakgjelnbpmnaaGreat
open Go Go.Vc
set_option maxRecDepth 10000
set_option maxHeartbeats 1000000
/-- A cipher's cells. -/
def cipC (f : Int) (box A pl : List UInt8) (r : Int) : List V := .c (.int .i64 f) :: (bs box ++ (bs A ++ (bs pl ++ [.c (.int .i64 r)])))
theorem cipC_len {f r : Int} {box A pl : List UInt8} (hb : box.length = 256) (hA : A.length = 16) (hp : pl.length = 16) : (cipC f box A pl r).length = 290 := by
  simp [cipC, bs_length, hb, hA, hp]
section
variable {f r : Int} {box A pl : List UInt8} {k : V → Prop} {kl : List V → Prop}
theorem cip_field : vGet (cipC f box A pl r) 0 k = k (.c (.int .i64 f)) := by unfold cipC; rw [vGet_zero]
theorem cip_box (hb : box.length = 256) : vSub (cipC f box A pl r) 1 256 k = k (.a (bs box)) := by
  unfold cipC; rw [show (1 : Nat) = 0 + 1 from rfl, vSub_succ, vSub_app0 (by rw [bs_length, hb])]
theorem cip_mix (hb : box.length = 256) (hA : A.length = 16) : vSub (cipC f box A pl r) 257 16 k = k (.a (bs A)) := by
  unfold cipC
  rw [show (257 : Nat) = 256 + 1 from rfl, vSub_succ, vSub_appR (by rw [bs_length, hb]; exact Nat.le_refl _), bs_length, hb, vSub_app0 (by rw [bs_length, hA])]
theorem cip_all {n : Nat} (hb : box.length = 256) (hA : A.length = 16) (hp : pl.length = 16) (hn : n = 290) : vSub (cipC f box A pl r) 0 n k = k (.a (cipC f box A pl r)) := vSub_all (by rw [cipC_len hb hA hp, hn])
theorem renL_cip (σ : List Nat) : V.renL σ (cipC f box A pl r) = cipC f box A pl r := by simp [cipC, V.renL, V.ren, renL_app, renL_bs]
theorem instL_cip (sub : List (Nat × Nat)) (N : Nat) : V.instL sub N (cipC f box A pl r) = cipC f box A pl r := by simp [cipC, V.instL, V.inst, instL_app, instL_bs]
theorem okL_cip (N : Nat) : okL N (cipC f box A pl r) := by simp [cipC, okL, okV, okL_app, okL_bs]
end
end Go.Proofs.YtjakgjelnbpmnaaGreat
/- Keys of rounds, and blocks enciphered: the program's engine. -/
set_option linter.unusedSimpArgs false
set_option linter.unusedVariables false
namespace Go.Proofs.YtjakgjelnbpmnaaGreat
open Go Go.Vc
set_option maxRecDepth 10000
set_option maxHeartbeats 1000000
/-- An engine's cells. -/
def engC (box bb pl bp : List UInt8) (h1 h2 : Nat) (rd : Int) : List V := bs box ++ (bs bb ++ (bs pl ++ (bs bp ++ [.p h1 0, .p h2 0, .c (.int .i64 rd)])))
/-- Their lengths. -/
structure EngL (box bb pl bp : List UInt8) : Prop where
  b : box.length = 256
  bb : bb.length = 256
  p : pl.length = 16
  bp : bp.length = 16
section
variable {rd : Int} {box bb pl bp : List UInt8} {h1 h2 : Nat} {k : V → Prop}
end
end Go.Proofs.YtjakgjelnbpmnaaGreat
/- Blocks enciphered by the program's engine. -/
set_option linter.unusedSimpArgs false
set_option linter.unusedVariables false
namespace Go.Proofs.YtjakgjelnbpmnaaGreat
open Go Go.Vc
set_option maxRecDepth 10000
set_option maxHeartbeats 1000000
end Go.Proofs.YtjakgjelnbpmnaaGreat
/- A block absorbed: the reference. -/
set_option linter.unusedSimpArgs false
set_option linter.unusedVariables false
namespace Go.Proofs.YtjakgjelnbpmnaaGreat
open Go Go.Vc
set_option maxRecDepth 10000
set_option maxHeartbeats 4000000
theorem app_set_l {a b : List UInt8} {i : Nat} {v : UInt8} (h : i < a.length) : (a ++ b).set i v = a.set i v ++ b := by
  rw [List.set_append_left _ _ h]
theorem app_set_r {a b : List UInt8} {i n : Nat} {v : UInt8} (h : a.length = n) : (a ++ b).set (n + i) v = a ++ b.set i v := by
  subst h
  rw [List.set_append_right _ _ (by omega)]; congr 2; omega
end Go.Proofs.YtjakgjelnbpmnaaGreat
