import Derived.Test.YtahnjhppkgndiaaGreatListsM
import Derived.Test.YtahnjhppkgndiaaGreatFieldC
/- Mixing: the reference multiplies, the program looks up its tables; the tables. -/
set_option linter.unusedSimpArgs false
set_option linter.unusedVariables false
namespace Go.Proofs.YtahnjhppkgndiaaGreat
open Go Go.Vc
set_option maxRecDepth 10000
theorem mixB_succ {m : Nat} {A s : List UInt8} {c i : Nat} (hi : i < 4) (j : Nat) : mixB m A s (4 * c + i) (j + 1) = mixB m A s (4 * c + i) j ^^^ tmul m (A.getD (i * 4 + j) 0) (s.getD (4 * c + j) 0) := by
  rw [mixB, show (4 * c + i) % 4 = i by omega, show (4 * c + i) / 4 = c by omega]
theorem set_getD {l : List UInt8} {i : Nat} (h : i < l.length) (v : UInt8) : (l.set i v).getD i 0 = v := by simp [List.getD, h]
theorem fl_set_same {n : Nat} {f0 g : Nat → UInt8} {i : Nat} (h : i < n) : (fl n f0 g i).set i (f0 i) = fl n f0 g i := by
  apply List.ext_getElem?
  intro j
  rw [List.getElem?_set]
  by_cases hj : i = j
  · subst hj; rw [if_pos rfl, fl_len, if_pos h, getD_lt (by rw [fl_len]; exact h), fl_at h]
  · rw [if_neg hj]
theorem c_spec_l03Mix (m : Nat) (A s : List UInt8) (hm : 256 ≤ m) (hm' : m < 512) (hA : A.length = 16) (hs : s.length = 16) : LC Tryz.prog 192 [.c (.int .i64 (m)), .a (bs A), .a (bs s)] [] (fun v hp => v = .a (bs (mixL 16 m A s)) ∧ hp = []) := by
  refine LC_of (X := XX (fun | 11 => .one 0 (.one 1 (.one 2 (.one 3 (.one 4 (.one 5 (.one 6 (.one 7 (.one 8 (.one 9 (.one 10 (.one 11 (.one 12 (.one 13 (.one 14 (.one 15 (.one 16 (.one 17 (.one 18 (.one 19 (.one 20 (.one 21 (.one 22 (.one 23 (.one 24 (.one 25 .nil))))))))))))))))))))))))) | _ => .nil) (fun _ => []) [15, 71, 72, 73, 79, 80, 87, 90, 91, 93, 99, 119, 137, 176, 177, 203, 204, 212, 219] 0) envOK Tryz.func192 (by kernel_rfl) (by kernel_rfl) rfl (Nat.le_of_ble_eq_true (by kernel_rfl)) ?_
  simp only [kFun, Tryz.f192, List.length_nil, List.length_cons, Nat.sub_zero, Nat.reduceSub, Nat.reduceAdd, List.nil_append, List.cons_append, List.replicate_succ, List.replicate_zero]
  simp only [XX, ↓VC, VP, TT, Nat.reduceEqDiff, reduceCtorEq, Nat.reduceAdd, Nat.reduceSub, Nat.reduceLT, Nat.reduceMul, Nat.reducePow, Nat.reduceLeDiff, Int.reduceToNat, Int.reduceLE, Int.reduceLT, Int.reducePow, hA, hs]
  refine kLoop_of (fun c : Nat => ([.c (.int .i64 (m)), .j, .j, .j, .p 0 0, .p 1 0, .p 2 0, .p 3 0, .c (.int .i64 (c)), .j, .j, .j, .j, .j, .j, .j, .j, .j, .j, .j, .j, .j, .j, .j, .j, .j, .j, .j, .j, .j, .j, .j, .j, .j, .j, .j, .j, .j, .j, .j, .j, .j, .j, .j, .j, .j, .j, .j, .j, .j], [⟨true, bs A⟩, ⟨true, bs s⟩, ⟨true, bs (List.replicate 16 0)⟩, ⟨true, bs (fl 16 (fun _ => 0) (fun x => mixB m A s x 4) (4 * c))⟩])) (fun c => 4 - c) (fun c => c ≤ 4) 0 (by omega)
    ⟨[0, 1, 2, 3], by rw [← fl_zero]; simp [-List.reduceReplicate, LES]⟩ ?_
  intro c hc
  rcases Nat.lt_or_ge c 4 with h | h
  · simp only [↓VC, VP, TT, Nat.reduceEqDiff, reduceCtorEq, Nat.reduceAdd, Nat.reduceSub, Nat.reduceLT, Nat.reduceMul, Nat.reducePow, Nat.reduceLeDiff, Int.reduceToNat, Int.reduceLE, Int.reduceLT, Int.reducePow, h, (eq_true (by omega) : ((c : Int) < 4) = True), (eq_true (by omega) : ((c : Int) < ((4 : Nat) : Int)) = True), wrap_i64 (n := (c : Int) + 1) (by omega) (by omega), decide_true]
    refine kLoop_of (fun i : Nat => ([.c (.int .i64 (m)), .j, .j, .j, .p 0 0, .p 1 0, .p 2 0, .p 3 0, .c (.int .i64 (c)), .c (.int .i64 (i)), .j, .j, .j, .j, .j, .j, .j, .j, .j, .j, .j, .j, .j, .j, .j, .j, .j, .j, .j, .j, .j, .j, .j, .j, .j, .j, .j, .j, .j, .j, .j, .j, .j, .j, .j, .j, .j, .j, .j, .j], [⟨true, bs A⟩, ⟨true, bs s⟩, ⟨true, bs (List.replicate 16 0)⟩, ⟨true, bs (fl 16 (fun _ => 0) (fun x => mixB m A s x 4) (4 * c + i))⟩])) (fun i => 4 - i) (fun i => i ≤ 4) 0 (by omega)
      ⟨[0, 1, 2, 3], by simp [-List.reduceReplicate, LES]⟩ ?_
    intro i hi
    rcases Nat.lt_or_ge i 4 with h2 | h2
    · simp only [↓VC, VP, TT, Nat.reduceEqDiff, reduceCtorEq, Nat.reduceAdd, Nat.reduceSub, Nat.reduceLT, Nat.reduceMul, Nat.reducePow, Nat.reduceLeDiff, Int.reduceToNat, Int.reduceLE, Int.reduceLT, Int.reducePow, h2, (eq_true (by omega) : ((i : Int) < 4) = True), (eq_true (by omega) : ((i : Int) < ((4 : Nat) : Int)) = True), wrap_i64 (n := (i : Int) + 1) (by omega) (by omega), decide_true]
      refine kLoop_of (fun j : Nat => ([.c (.int .i64 (m)), .j, .j, .j, .p 0 0, .p 1 0, .p 2 0, .p 3 0, .c (.int .i64 (c)), .c (.int .i64 (i)), .c (.int .i64 (j)), .j, .j, .j, .j, .j, .j, .j, .j, .j, .j, .j, .j, .j, .j, .j, .j, .j, .j, .j, .j, .j, .j, .j, .j, .j, .j, .j, .j, .j, .j, .j, .j, .j, .j, .j, .j, .j, .j, .j], [⟨true, bs A⟩, ⟨true, bs s⟩, ⟨true, bs (List.replicate 16 0)⟩, ⟨true, bs ((fl 16 (fun _ => 0) (fun x => mixB m A s x 4) (4 * c + i)).set (4 * c + i) (mixB m A s (4 * c + i) j))⟩])) (fun j => 4 - j) (fun j => j ≤ 4) 0 (by omega)
        ⟨[0, 1, 2, 3], by have := fl_set_same (n := 16) (f0 := fun _ => 0) (g := fun x => mixB m A s x 4) (i := 4 * c + i) (by omega); rw [show mixB m A s (4 * c + i) 0 = 0 from rfl, this]; simp [-List.reduceReplicate, LES]⟩ ?_
      intro j hj
      rcases Nat.lt_or_ge j 4 with h3 | h3
      · have w1 : IntKind.i64.wrap (4 * (c : Int)) = ((4 * c : Nat) : Int) := by rw [wrap_i64 (by omega) (by omega)]; omega
        have w2 : IntKind.i64.wrap (((4 * c : Nat) : Int) + i) = ((4 * c + i : Nat) : Int) := by rw [wrap_i64 (by omega) (by omega)]; omega
        have w3 : IntKind.i64.wrap (((4 * c : Nat) : Int) + j) = ((4 * c + j : Nat) : Int) := by rw [wrap_i64 (by omega) (by omega)]; omega
        have g1 := set_getD (l := fl 16 (fun _ => 0) (fun x => mixB m A s x 4) (4 * c + i)) (i := 4 * c + i) (by rw [fl_len]; omega) (mixB m A s (4 * c + i) j)
        simp only [↓VC, VP, TT, Nat.reduceEqDiff, reduceCtorEq, Nat.reduceAdd, Nat.reduceSub, Nat.reduceLT, Nat.reduceMul, Nat.reducePow, Nat.reduceLeDiff, Int.reduceToNat, Int.reduceLE, Int.reduceLT, Int.reducePow, h3, (eq_true (by omega) : ((j : Int) < 4) = True), (eq_true (by omega) : ((j : Int) < ((4 : Nat) : Int)) = True), wrap_i64 (n := (j : Int) + 1) (by omega) (by omega), decide_true, w1, w2, w3, fl_len, hA, hs, h2, (eq_true (by omega) : ((i : Int) < ((4 : Nat) : Int)) = True), (eq_true (by omega) : (((4 * c + i : Nat) : Int) < ((16 : Nat) : Int)) = True), (eq_true (by omega) : (((4 * c + j : Nat) : Int) < ((16 : Nat) : Int)) = True), (eq_true (by omega) : (4 * c + i < 16) = True), (eq_true (by omega) : (4 * c + j < 16) = True), (eq_true (by omega) : (i * 4 + j < 16) = True)]
        refine kCall_val (c_spec_l01Times m (A.getD (i * 4 + j) 0) (s.getD (4 * c + j) 0) hm hm') (by rfl) [] (by simp [CALL]) (by simp [CALL, cellsAt]) (by simp [CALL]) (by simp [okL_bs]) ?_
        simp only [CALL, ↓VC, VP, TT, Nat.reduceEqDiff, reduceCtorEq, Nat.reduceAdd, Nat.reduceSub, Nat.reduceLT, Nat.reduceMul, Nat.reducePow, Nat.reduceLeDiff, Int.reduceToNat, Int.reduceLE, Int.reduceLT, Int.reducePow, fl_len, (eq_true (by omega) : (((4 * c + i : Nat) : Int) < ((16 : Nat) : Int)) = True), (eq_true (by omega) : (4 * c + i < 16) = True)]
        refine ⟨j + 1, by omega, by omega, [0, 1, 2, 3], ?_⟩
        rw [g1, List.set_set, ← mixB_succ h2, wrap_i64 (by omega) (by omega)]
        simp [-List.reduceReplicate, LES]
      · obtain rfl : j = 4 := by omega
        simp only [↓VC, VP, TT, Nat.reduceEqDiff, reduceCtorEq, Nat.reduceAdd, Nat.reduceSub, Nat.reduceLT, Nat.reduceMul, Nat.reducePow, Nat.reduceLeDiff, Int.reduceToNat, Int.reduceLE, Int.reduceLT, Int.reducePow, (eq_false (by omega) : (((4 : Nat) : Int) < 4) = False), decide_false, wrap_i64 (n := (i : Int) + 1) (by omega) (by omega)]
        refine ⟨i + 1, by omega, by omega, [0, 1, 2, 3], ?_⟩
        rw [fl_set (by omega) rfl]
        simp [-List.reduceReplicate, LES]; exact .inr rfl
    · obtain rfl : i = 4 := by omega
      simp only [↓VC, VP, TT, Nat.reduceEqDiff, reduceCtorEq, Nat.reduceAdd, Nat.reduceSub, Nat.reduceLT, Nat.reduceMul, Nat.reducePow, Nat.reduceLeDiff, Int.reduceToNat, Int.reduceLE, Int.reduceLT, Int.reducePow, (eq_false (by omega) : (((4 : Nat) : Int) < 4) = False), decide_false, wrap_i64 (n := (c : Int) + 1) (by omega) (by omega)]
      exact ⟨c + 1, by omega, by omega, [0, 1, 2, 3], by simp [-List.reduceReplicate, LES]; exact .inr rfl⟩
  · obtain rfl : c = 4 := by omega
    simp only [↓VC, VP, TT, Nat.reduceEqDiff, reduceCtorEq, Nat.reduceAdd, Nat.reduceSub, Nat.reduceLT, Nat.reduceMul, Nat.reducePow, Nat.reduceLeDiff, Int.reduceToNat, Int.reduceLE, Int.reduceLT, Int.reducePow, fl_len, (eq_false (by omega) : (((4 : Nat) : Int) < 4) = False), decide_false]
    rw [fl_done]; refine ⟨_, _, [], ⟨rfl, rfl⟩, ?_⟩; simp [-List.reduceReplicate, LES, mixL]
end Go.Proofs.YtahnjhppkgndiaaGreat
/- Mixing by tables. -/
set_option linter.unusedSimpArgs false
set_option linter.unusedVariables false
namespace Go.Proofs.YtahnjhppkgndiaaGreat
open Go Go.Vc
set_option maxRecDepth 10000
set_option maxHeartbeats 1000000
theorem tab_at {m : Nat} {A : List UInt8} {i k : Nat} (hi : i < 4) (hk : k < 4) (u : UInt8) : (tabL m A).getD (i * 1024 + k * 256 + u.toNat) 0 = tmul m (A.getD (i * 4 + k) 0) u := by
  rw [← tabL_get (m := m) (A := A) (k := i * 4 + k) (by omega) u, show (i * 4 + k) * 256 + u.toNat = i * 1024 + k * 256 + u.toNat by omega]
theorem c_mix (m : Nat) (A s : List UInt8) (N q : Nat) (hN : N = 4 * q) (hq : q ≤ 4) (hs : s.length = N) : LC Tryz.prog 212 [.p 0 0, .s 1 0 N N] [⟨false, bs (tabL m A)⟩, ⟨true, bs s⟩]
    (RetM (fun _ : Unit => True) fun _ => (.t [], [⟨false, bs (tabL m A)⟩, ⟨true, bs (mixL N m A s)⟩], [])) := by
  refine LC_of (X := XX (fun | 3 => .one 0 (.one 1 (.one 2 (.one 3 (.one 4 (.one 5 (.one 6 (.one 7 (.one 8 (.one 9 (.one 10 (.one 11 (.one 12 (.one 13 (.one 14 (.one 15 (.one 16 (.one 17 (.one 18 (.one 19 (.one 20 (.one 21 (.one 22 .nil)))))))))))))))))))))) | 7 => .one 0 (.one 1 (.one 2 (.one 3 (.one 4 (.one 5 (.one 6 (.one 7 (.one 8 (.one 9 (.one 10 (.one 11 (.one 12 (.one 13 (.one 14 (.one 15 (.one 16 (.one 17 (.one 18 (.one 19 (.one 20 (.one 21 (.one 22 (.one 23 (.one 24 (.one 25 (.one 26 (.one 27 (.one 28 (.one 29 (.one 30 (.one 31 (.one 32 (.one 33 (.one 34 (.one 35 (.one 36 (.one 37 (.one 38 (.one 39 (.one 40 .nil)))))))))))))))))))))))))))))))))))))))) | _ => .nil) (fun _ => []) [15, 71, 72, 73, 79, 80, 87, 90, 91, 93, 99, 119, 137, 176, 177, 203, 204, 212, 219] 2) envOK Tryz.func212 (by kernel_rfl) (by kernel_rfl) rfl (Nat.le_of_ble_eq_true (by kernel_rfl)) ?_
  simp only [kFun, Tryz.f212, List.length_nil, List.length_cons, Nat.sub_zero, Nat.reduceSub, Nat.reduceAdd, List.nil_append, List.cons_append, List.replicate_succ, List.replicate_zero]
  simp only [XX, ↓VC, VP, TT, Nat.reduceEqDiff, reduceCtorEq, Nat.reduceAdd, Nat.reduceSub, Nat.reduceLT, Nat.reduceMul, Nat.reducePow, Nat.reduceLeDiff, Int.reduceToNat, Int.reduceLE, Int.reduceLT, Int.reducePow]
  refine kLoop_of (fun c : Nat => ([.p 0 0, .s 1 0 N N, .j, .j, .c (.int .i64 ((4 * c : Nat))), .j, .j, .j, .j, .j, .j, .j, .j, .j, .j, .j, .j, .j, .j, .j, .j, .j, .j, .j, .j, .j, .j, .j, .j, .j, .j, .j, .j, .j, .j, .j, .j, .j, .j, .j, .j, .j, .j, .j, .j, .j, .j, .j, .j, .j, .j, .j, .j, .j, .j, .j, .j, .j, .j, .j, .j, .j, .j, .j, .j, .j, .j, .j, .j, .j, .j, .j, .j, .j, .j, .j, .j, .j, .j], [⟨false, bs (tabL m A)⟩, ⟨true, bs (fl N (fun x => s.getD x 0) (fun x => mixB m A s x 4) (4 * c))⟩])) (fun c => q - c) (fun c => c ≤ q) 0 (by omega)
    ⟨[0, 1], by rw [← fl_start hs]; simp [-List.reduceReplicate, LES]⟩ ?_
  intro c hc
  rcases Nat.lt_or_ge c q with h | h
  · have w1 : IntKind.i64.wrap (((4 * c : Nat) : Int) + 1) = ((4 * c + 1 : Nat) : Int) := by rw [wrap_i64 (by omega) (by omega)]; omega
    have w2 : IntKind.i64.wrap (((4 * c : Nat) : Int) + 2) = ((4 * c + 2 : Nat) : Int) := by rw [wrap_i64 (by omega) (by omega)]; omega
    have w3 : IntKind.i64.wrap (((4 * c : Nat) : Int) + 3) = ((4 * c + 3 : Nat) : Int) := by rw [wrap_i64 (by omega) (by omega)]; omega
    have w4 : IntKind.i64.wrap (((4 * c : Nat) : Int) + 4) = ((4 * (c + 1) : Nat) : Int) := by rw [wrap_i64 (by omega) (by omega)]; omega
    have ge0 : ∀ k, k < 4 → (fl N (fun x => s.getD x 0) (fun x => mixB m A s x 4) (4 * c)).getD (4 * c + k) 0 = s.getD (4 * c + k) 0 := fun k hk => by
      rw [fl_get (by omega), if_neg (by omega)]
    have g0 := ge0 0 (by omega)
    rw [Nat.add_zero] at g0
    simp only [↓VC, VP, TT, Nat.reduceEqDiff, reduceCtorEq, Nat.reduceAdd, Nat.reduceSub, Nat.reduceLT, Nat.reduceMul, Nat.reducePow, Nat.reduceLeDiff, Int.reduceToNat, Int.reduceLE, Int.reduceLT, Int.reducePow, w1, w2, w3, fl_len, decide_true, g0, ge0 1 (by omega), ge0 2 (by omega), ge0 3 (by omega), (eq_true (by omega) : (((4 * c : Nat) : Int) < (N : Int)) = True), (eq_true (by omega) : (((4 * c + 1 : Nat) : Int) < (N : Int)) = True), (eq_true (by omega) : (((4 * c + 2 : Nat) : Int) < (N : Int)) = True), (eq_true (by omega) : (((4 * c + 3 : Nat) : Int) < (N : Int)) = True),
      (eq_true (by omega) : (4 * c < N) = True), (eq_true (by omega) : (4 * c + 1 < N) = True), (eq_true (by omega) : (4 * c + 2 < N) = True), (eq_true (by omega) : (4 * c + 3 < N) = True)]
    refine kLoop_of (fun i : Nat => ([.p 0 0, .s 1 0 N N, .j, .j, .c (.int .i64 ((4 * c : Nat))), .c (.int .u8 ((s.getD (4 * c) 0).toNat : Int)), .c (.int .u8 ((s.getD (4 * c + 1) 0).toNat : Int)), .c (.int .u8 ((s.getD (4 * c + 2) 0).toNat : Int)), .c (.int .u8 ((s.getD (4 * c + 3) 0).toNat : Int)), .j, .j, .j, .j, .j, .j, .j, .j, .j, .j, .j, .j, .j, .j, .j, .j, .j, .j, .j, .j, .j, .j, .j, .j, .j, .j, .c (.int .i64 (i)), .j, .j, .j, .j, .j, .j, .j, .j, .j, .j, .j, .j, .j, .j, .j, .j, .j, .j, .j, .j, .j, .j, .j, .j, .j, .j, .j, .j, .j, .j, .j, .j, .j, .j, .j, .j, .j, .j, .j, .j, .j, .j, .j], [⟨false, bs (tabL m A)⟩, ⟨true, bs (fl N (fun x => s.getD x 0) (fun x => mixB m A s x 4) (4 * c + i))⟩])) (fun i => 4 - i) (fun i => i ≤ 4) 0 (by omega)
      ⟨[0, 1], by simp [-List.reduceReplicate, LES]⟩ ?_
    intro i hi
    rcases Nat.lt_or_ge i 4 with h2 | h2
    · have w5 : IntKind.i64.wrap (((4 * c : Nat) : Int) + i) = ((4 * c + i : Nat) : Int) := by rw [wrap_i64 (by omega) (by omega)]; omega
      have hu : ∀ k, k < 4 → i * 1024 + k * 256 + (s.getD (4 * c + k) 0).toNat < 4096 := fun k hk => by
        have := (s.getD (4 * c + k) 0).toNat_lt; omega
      have t0 := tab_at (m := m) (A := A) h2 (k := 0) (by omega) (s.getD (4 * c) 0)
      have t1 := tab_at (m := m) (A := A) h2 (k := 1) (by omega) (s.getD (4 * c + 1) 0)
      have t2 := tab_at (m := m) (A := A) h2 (k := 2) (by omega) (s.getD (4 * c + 2) 0)
      have t3 := tab_at (m := m) (A := A) h2 (k := 3) (by omega) (s.getD (4 * c + 3) 0)
      have u0 := hu 0 (by omega); have u1 := hu 1 (by omega); have u2 := hu 2 (by omega); have u3 := hu 3 (by omega)
      simp only [Nat.zero_mul, Nat.one_mul, Nat.add_zero, Nat.reduceMul] at t0 t1 t2 t3 u0 u1 u2 u3
      have hb : ∀ u : UInt8, ((u.toNat : Int) < ((256 : Nat) : Int)) = True := fun u => eq_true (by have := u.toNat_lt; omega)
      simp only [↓VC, VP, TT, Nat.reduceEqDiff, reduceCtorEq, Nat.reduceAdd, Nat.reduceSub, Nat.reduceLT, Nat.reduceMul, Nat.reducePow, Nat.reduceLeDiff, Int.reduceToNat, Int.reduceLE, Int.reduceLT, Int.reducePow, h2, (eq_true (by omega) : ((i : Int) < 4) = True), (eq_true (by omega) : ((i : Int) < ((4 : Nat) : Int)) = True), wrap_i64 (n := (i : Int) + 1) (by omega) (by omega), decide_true, w5, fl_len, tabL_len, hb, Nat.add_zero, t0, t1, t2, t3, u0, u1, u2, u3, (eq_true (by omega) : (((4 * c + i : Nat) : Int) < (N : Int)) = True), (eq_true (by omega) : (4 * c + i < N) = True)]
      refine ⟨by omega, by omega, by omega, by omega, i + 1, by omega, by omega, [0, 1], ?_⟩
      rw [fl_set (by omega) (by rw [mixB_four, show (4 * c + i) % 4 = i by omega, show (4 * c + i) / 4 = c by omega])]
      simp [-List.reduceReplicate, LES]; exact .inr rfl
    · obtain rfl : i = 4 := by omega
      simp only [↓VC, VP, TT, Nat.reduceEqDiff, reduceCtorEq, Nat.reduceAdd, Nat.reduceSub, Nat.reduceLT, Nat.reduceMul, Nat.reducePow, Nat.reduceLeDiff, Int.reduceToNat, Int.reduceLE, Int.reduceLT, Int.reducePow, (eq_false (by omega) : (((4 : Nat) : Int) < 4) = False), decide_false, w4]
      exact ⟨c + 1, by omega, by omega, [0, 1], by simp [-List.reduceReplicate, LES]; exact .inr rfl⟩
  · obtain rfl : c = q := by omega
    simp only [↓VC, VP, TT, Nat.reduceEqDiff, reduceCtorEq, Nat.reduceAdd, Nat.reduceSub, Nat.reduceLT, Nat.reduceMul, Nat.reducePow, Nat.reduceLeDiff, Int.reduceToNat, Int.reduceLE, Int.reduceLT, Int.reducePow, (eq_false (by omega) : (((4 * c : Nat) : Int) < (N : Int)) = False), decide_false]
    subst hN
    rw [fl_done]
    refine ⟨_, _, [0, 1], ⟨(), trivial, rfl, rfl⟩, ?_⟩
    simp [-List.reduceReplicate, LES, mixL]
end Go.Proofs.YtahnjhppkgndiaaGreat
/- The tables. -/
set_option linter.unusedSimpArgs false
set_option linter.unusedVariables false
namespace Go.Proofs.YtahnjhppkgndiaaGreat
open Go Go.Vc
set_option maxRecDepth 10000
set_option maxHeartbeats 1000000
theorem or_tab : ∀ k, k < 8 → ∀ l, l < 128 → l < 2 ^ k → bitI .or .i64 ((2 ^ k : Nat) : Int) (l : Nat) = ((2 ^ k + l : Nat) : Int) ∧ UInt8.ofInt ((2 ^ k : Nat) : Int) ^^^ UInt8.ofInt ((l : Nat) : Int) = UInt8.ofInt ((2 ^ k + l : Nat) : Int) := by decide +kernel
theorem pow8 : ∀ k, k < 8 → 2 ^ k ≤ 128 := by decide
theorem row_get {A : List UInt8} {i j : Nat} (hj : j < 4) (hA : A.length = 16) (hi : i < 4) : ((A.drop (i * 4)).take 4).getD j 0 = A.getD (i * 4 + j) 0 := by
  simp [List.getD, List.getElem?_take, hj]
theorem c_newMixer (m : Nat) (A : List UInt8) (hm : 256 ≤ m) (hm' : m < 512) (hA : A.length = 16) : LC Tryz.prog 143 [.c (.int .i64 (m)), .a (bs A)] [] (Ret [] (fun _ : Unit => True) fun _ => (.p 0 0, [⟨true, bs (tabL m A)⟩])) := by
  refine LC_of (X := XX (fun | 15 => .one 0 (.one 1 (.one 2 (.one 3 (.one 4 (.one 5 (.one 6 (.one 7 (.one 8 (.one 9 (.one 10 (.one 11 (.one 12 (.one 13 (.one 14 (.one 15 (.one 16 (.one 17 (.one 18 (.one 19 (.one 20 (.one 21 .nil))))))))))))))))))))) | _ => .nil) (fun _ => []) [15, 71, 72, 73, 79, 80, 87, 90, 91, 93, 99, 119, 137, 176, 177, 203, 204, 212, 219] 0) envOK Tryz.func143 (by kernel_rfl) (by kernel_rfl) rfl (Nat.le_of_ble_eq_true (by kernel_rfl)) ?_
  simp only [kFun, Tryz.f143, List.length_nil, List.length_cons, Nat.sub_zero, Nat.reduceSub, Nat.reduceAdd, List.nil_append, List.cons_append, List.replicate_succ, List.replicate_zero]
  simp only [XX, ↓VC, VP, TT, Nat.reduceEqDiff, reduceCtorEq, Nat.reduceAdd, Nat.reduceSub, Nat.reduceLT, Nat.reduceMul, Nat.reducePow, Nat.reduceLeDiff, Int.reduceToNat, Int.reduceLE, Int.reduceLT, Int.reducePow, hA]
  refine kLoop_of (fun i : Nat => ([.c (.int .i64 (m)), .j, .j, .p 0 0, .j, .p 1 0, .j, .j, .j, .j, .j, .j, .j, .j, .c (.int .i64 (i)), .j, .j, .j, .j, .j, .j, .j, .j, .j, .j, .j, .j, .j, .j, .j, .j, .j, .j, .j, .j, .j, .j, .j, .j, .j, .j, .j, .j, .j, .j, .j, .j, .j, .j, .j, .j, .j, .j, .j, .j, .j, .j, .j, .j, .j, .j, .j], [⟨true, bs A⟩, ⟨true, bs (fl 4096 (fun _ => 0) (tabB m A) (1024 * i))⟩])) (fun i => 4 - i) (fun i => i ≤ 4) 0 (by omega)
    ⟨[0, 1], by rw [Nat.mul_zero, ← fl_zero]; simp [-List.reduceReplicate, LES]⟩ ?_
  intro i hi
  rcases Nat.lt_or_ge i 4 with h | h
  · simp only [↓VC, VP, TT, Nat.reduceEqDiff, reduceCtorEq, Nat.reduceAdd, Nat.reduceSub, Nat.reduceLT, Nat.reduceMul, Nat.reducePow, Nat.reduceLeDiff, Int.reduceToNat, Int.reduceLE, Int.reduceLT, Int.reducePow, hA, h, (eq_true (by omega) : ((i : Int) < 4) = True), (eq_true (by omega) : ((i : Int) < ((4 : Nat) : Int)) = True), wrap_i64 (n := (i : Int) + 1) (by omega) (by omega), decide_true, (eq_true (by omega) : (i * 4 + 4 ≤ 16) = True)]
    refine kLoop_of (fun j : Nat => ([.c (.int .i64 (m)), .j, .j, .p 0 0, .j, .p 1 0, .c (.int .i64 (i)), .j, .j, .j, .j, .j, .j, .j, .c (.int .i64 (i)), .j, .j, .j, .j, .a (bs ((A.drop (i * 4)).take 4)), .c (.int .i64 (j)), .j, .j, .j, .j, .j, .j, .j, .j, .j, .j, .j, .j, .j, .j, .j, .j, .j, .j, .j, .j, .j, .j, .j, .j, .j, .j, .j, .j, .j, .j, .j, .j, .j, .j, .j, .j, .j, .j, .j, .j, .j], [⟨true, bs A⟩, ⟨true, bs (fl 4096 (fun _ => 0) (tabB m A) (1024 * i + 256 * j))⟩])) (fun j => 4 - j) (fun j => j ≤ 4) 0 (by omega)
      ⟨[0, 1], by simp [-List.reduceReplicate, LES]⟩ ?_
    intro j hj
    rcases Nat.lt_or_ge j 4 with h2 | h2
    · have hrl : ((A.drop (i * 4)).take 4).length = 4 := by rw [List.length_take, List.length_drop]; omega
      simp only [↓VC, VP, TT, Nat.reduceEqDiff, reduceCtorEq, Nat.reduceAdd, Nat.reduceSub, Nat.reduceLT, Nat.reduceMul, Nat.reducePow, Nat.reduceLeDiff, Int.reduceToNat, Int.reduceLE, Int.reduceLT, Int.reducePow, hrl, h2, (eq_true (by omega) : ((j : Int) < 4) = True), (eq_true (by omega) : ((j : Int) < ((4 : Nat) : Int)) = True), wrap_i64 (n := (j : Int) + 1) (by omega) (by omega), decide_true, row_get h2 hA h]
      refine kLoop_of (fun k : Nat => ([.c (.int .i64 (m)), .j, .j, .p 0 0, .j, .p 1 0, .c (.int .i64 (i)), .c (.int .i64 (j)), .c (.int .u8 ((A.getD (i * 4 + j) 0).toNat : Int)), .c (.int .i64 ((2 ^ k : Nat))), .j, .j, .j, .j, .c (.int .i64 (i)), .j, .j, .j, .j, .a (bs ((A.drop (i * 4)).take 4)), .c (.int .i64 (j)), .j, .j, .j, .j, .j, .j, .j, .j, .j, .j, .j, .j, .j, .j, .j, .j, .j, .j, .j, .j, .j, .j, .j, .j, .j, .j, .j, .j, .j, .j, .j, .j, .j, .j, .j, .j, .j, .j, .j, .j, .j], [⟨true, bs A⟩, ⟨true, bs (fl 4096 (fun _ => 0) (tabB m A) (1024 * i + 256 * j + 2 ^ k))⟩])) (fun k => 8 - k) (fun k => k ≤ 8) 0 (by omega)
        ⟨[0, 1], by
          have e : fl 4096 (fun _ => 0) (tabB m A) (1024 * i + 256 * j + 2 ^ 0) = fl 4096 (fun _ => 0) (tabB m A) (1024 * i + 256 * j) := by
            have h0 : tabB m A (1024 * i + 256 * j) = 0 := by
              unfold tabB; rw [show (1024 * i + 256 * j) % 256 = 0 by omega]; exact tmul_zero' _ _
            have h1 := fl_set (n := 4096) (f0 := fun _ => 0) (g := tabB m A) (i := 1024 * i + 256 * j) (v := 0) (by omega) h0.symm
            have h2 := fl_set_same (n := 4096) (f0 := fun _ => 0) (g := tabB m A) (i := 1024 * i + 256 * j) (by omega)
            rw [show 2 ^ 0 = 1 from rfl, ← h1]; exact h2
          rw [e]; simp [-List.reduceReplicate, LES]⟩ ?_
      intro k hk
      rcases Nat.lt_or_ge k 8 with h3 | h3
      · have hp := pow8 k h3
        have hp0 : 0 < 2 ^ k := Nat.two_pow_pos k
        have hconv : IntKind.u8.wrap (((2 ^ k : Nat) : Int)) = (((UInt8.ofInt ((2 ^ k : Nat) : Int)).toNat : Nat) : Int) := wrap_u8 _
        simp only [↓VC, VP, TT, Nat.reduceEqDiff, reduceCtorEq, Nat.reduceAdd, Nat.reduceSub, Nat.reduceLT, Nat.reduceMul, Nat.reducePow, Nat.reduceLeDiff, Int.reduceToNat, Int.reduceLE, Int.reduceLT, Int.reducePow, (eq_true (by omega) : (((2 ^ k : Nat) : Int) < 256) = True), decide_true, hconv]
        refine kCall_val (c_impl_times m (A.getD (i * 4 + j) 0) (UInt8.ofInt ((2 ^ k : Nat) : Int)) hm hm') (by rfl) [] (by simp [CALL]) (by simp [CALL, cellsAt]) (by simp [CALL]) (by simp [okL_bs]) ?_
        simp only [CALL, ↓VC, VP, TT, Nat.reduceEqDiff, reduceCtorEq, Nat.reduceAdd, Nat.reduceSub, Nat.reduceLT, Nat.reduceMul, Nat.reducePow, Nat.reduceLeDiff, Int.reduceToNat, Int.reduceLE, Int.reduceLT, Int.reducePow]
        refine kLoop_of (fun l : Nat => ([.c (.int .i64 (m)), .j, .j, .p 0 0, .j, .p 1 0, .c (.int .i64 (i)), .c (.int .i64 (j)), .c (.int .u8 ((A.getD (i * 4 + j) 0).toNat : Int)), .c (.int .i64 ((2 ^ k : Nat))), .c (.int .u8 ((tmul m (A.getD (i * 4 + j) 0) (UInt8.ofInt ((2 ^ k : Nat) : Int))).toNat : Int)), .j, .j, .j, .c (.int .i64 (i)), .j, .j, .j, .j, .a (bs ((A.drop (i * 4)).take 4)), .c (.int .i64 (j)), .j, .j, .j, .j, .j, .j, .j, .j, .j, .j, .j, .j, .c (.int .i64 ((2 ^ k : Nat))), .c (.int .i64 (l)), .j, .j, .j, .j, .j, .j, .j, .j, .j, .j, .j, .j, .j, .j, .j, .j, .j, .j, .j, .j, .j, .j, .j, .j, .j, .j, .j], [⟨true, bs A⟩, ⟨true, bs (fl 4096 (fun _ => 0) (tabB m A) (1024 * i + 256 * j + 2 ^ k + l))⟩])) (fun l => 2 ^ k - l) (fun l => l ≤ 2 ^ k) 0 (by omega)
          ⟨[0, 1], by simp [-List.reduceReplicate, LES]⟩ ?_
        intro l hl
        rcases Nat.lt_or_ge l (2 ^ k) with h4 | h4
        · obtain ⟨o1, o2⟩ := or_tab k h3 l (by omega) h4
          have e1 : (fl 4096 (fun _ => 0) (tabB m A) (1024 * i + 256 * j + 2 ^ k + l)).getD (i * 1024 + j * 256 + l) 0 = tabB m A (1024 * i + 256 * j + l) := by
            rw [fl_get (by omega), if_pos (by omega), show i * 1024 + j * 256 + l = 1024 * i + 256 * j + l by omega]
          have e2 : tmul m (A.getD (i * 4 + j) 0) (UInt8.ofInt ((2 ^ k : Nat) : Int)) ^^^ tabB m A (1024 * i + 256 * j + l) = tabB m A (1024 * i + 256 * j + 2 ^ k + l) := by
            unfold tabB
            rw [show (1024 * i + 256 * j + l) / 256 = i * 4 + j by omega, show (1024 * i + 256 * j + l) % 256 = l by omega, show (1024 * i + 256 * j + 2 ^ k + l) / 256 = i * 4 + j by omega,
              show (1024 * i + 256 * j + 2 ^ k + l) % 256 = 2 ^ k + l by omega, ← tmul_xor, o2]
          simp only [↓VC, VP, TT, Nat.reduceEqDiff, reduceCtorEq, Nat.reduceAdd, Nat.reduceSub, Nat.reduceLT, Nat.reduceMul, Nat.reducePow, Nat.reduceLeDiff, Int.reduceToNat, Int.reduceLE, Int.reduceLT, Int.reducePow, fl_len, o1, e1, e2, (eq_true (by omega) : ((l : Int) < ((2 ^ k : Nat) : Int)) = True), decide_true, h, h2, (eq_true (by omega) : ((i : Int) < ((4 : Nat) : Int)) = True), (eq_true (by omega) : ((j : Int) < ((4 : Nat) : Int)) = True),
            (eq_true (by omega) : ((l : Int) < ((256 : Nat) : Int)) = True), (eq_true (by omega) : (((2 ^ k + l : Nat) : Int) < ((256 : Nat) : Int)) = True), (eq_true (by omega) : (i * 1024 + j * 256 + l < 4096) = True), (eq_true (by omega) : (i * 1024 + j * 256 + (2 ^ k + l) < 4096) = True),
            wrap_i64 (n := (l : Int) + 1) (by omega) (by omega)]
          refine ⟨l + 1, by omega, by omega, [0, 1], ?_⟩
          rw [show i * 1024 + j * 256 + (2 ^ k + l) = 1024 * i + 256 * j + 2 ^ k + l by omega, fl_set (by omega) rfl]
          simp [-List.reduceReplicate, LES]; exact .inr rfl
        · obtain rfl : l = 2 ^ k := by omega
          have w2 : IntKind.i64.wrap (((2 ^ k : Nat) : Int) * 2) = ((2 ^ (k + 1) : Nat) : Int) := by rw [wrap_i64 (by omega) (by omega), Nat.pow_succ]; omega
          simp only [↓VC, VP, TT, Nat.reduceEqDiff, reduceCtorEq, Nat.reduceAdd, Nat.reduceSub, Nat.reduceLT, Nat.reduceMul, Nat.reducePow, Nat.reduceLeDiff, Int.reduceToNat, Int.reduceLE, Int.reduceLT, Int.reducePow, (eq_false (by omega) : (((2 ^ k : Nat) : Int) < ((2 ^ k : Nat) : Int)) = False), decide_false, w2]
          refine ⟨k + 1, by omega, by omega, [0, 1], ?_⟩
          rw [show 1024 * i + 256 * j + 2 ^ k + 2 ^ k = 1024 * i + 256 * j + 2 ^ (k + 1) by rw [Nat.pow_succ]; omega]
          simp [-List.reduceReplicate, LES]
      · obtain rfl : k = 8 := by omega
        simp only [↓VC, VP, TT, Nat.reduceEqDiff, reduceCtorEq, Nat.reduceAdd, Nat.reduceSub, Nat.reduceLT, Nat.reduceMul, Nat.reducePow, Nat.reduceLeDiff, Int.reduceToNat, Int.reduceLE, Int.reduceLT, Int.reducePow, (eq_false (by decide) : (((2 ^ 8 : Nat) : Int) < 256) = False), decide_false, wrap_i64 (n := (j : Int) + 1) (by omega) (by omega)]
        refine ⟨j + 1, by omega, by omega, [0, 1], ?_⟩
        rw [show 1024 * i + 256 * j + 2 ^ 8 = 1024 * i + 256 * (j + 1) by omega]
        simp [-List.reduceReplicate, LES]
    · obtain rfl : j = 4 := by omega
      simp only [↓VC, VP, TT, Nat.reduceEqDiff, reduceCtorEq, Nat.reduceAdd, Nat.reduceSub, Nat.reduceLT, Nat.reduceMul, Nat.reducePow, Nat.reduceLeDiff, Int.reduceToNat, Int.reduceLE, Int.reduceLT, Int.reducePow, (eq_false (by omega) : (((4 : Nat) : Int) < 4) = False), decide_false, wrap_i64 (n := (i : Int) + 1) (by omega) (by omega)]
      refine ⟨i + 1, by omega, by omega, [0, 1], ?_⟩
      rw [show 1024 * i + 256 * 4 = 1024 * (i + 1) by omega]
      simp [-List.reduceReplicate, LES]
  · obtain rfl : i = 4 := by omega
    simp only [↓VC, VP, TT, Nat.reduceEqDiff, reduceCtorEq, Nat.reduceAdd, Nat.reduceSub, Nat.reduceLT, Nat.reduceMul, Nat.reducePow, Nat.reduceLeDiff, Int.reduceToNat, Int.reduceLE, Int.reduceLT, Int.reducePow, (eq_false (by omega) : (((4 : Nat) : Int) < 4) = False), decide_false]
    rw [fl_done]
    refine ⟨_, _, [1], ⟨(), trivial, rfl, rfl⟩, ?_⟩
    simp [-List.reduceReplicate, LES, tabL]
end Go.Proofs.YtahnjhppkgndiaaGreat
