import Derived.Test.YtledcckafhpgaaaEngB
/- Mixing by tables. -/
set_option linter.unusedSimpArgs false
set_option linter.unusedVariables false
namespace Go.Proofs.Ytledcckafhpgaaa
open Go Go.Vc
set_option maxRecDepth 10000
set_option maxHeartbeats 1000000
theorem tab_at {m : Nat} {A : List UInt8} {i k : Nat} (hi : i < 4) (hk : k < 4) (u : UInt8) : (tabL m A).getD (i * 1024 + k * 256 + u.toNat) 0 = tmul m (A.getD (i * 4 + k) 0) u := by
  rw [← tabL_get (m := m) (A := A) (k := i * 4 + k) (by omega) u, show (i * 4 + k) * 256 + u.toNat = i * 1024 + k * 256 + u.toNat by omega]
theorem c_mix (m : Nat) (A s : List UInt8) (N q : Nat) (hN : N = 4 * q) (hq : q ≤ 4) (hs : s.length = N) : LC Try.prog 90 [.p 0 0, .s 1 0 N N] [⟨false, bs (tabL m A)⟩, ⟨true, bs s⟩]
    (RetM (fun _ : Unit => True) fun _ => (.t [], [⟨false, bs (tabL m A)⟩, ⟨true, bs (mixL N m A s)⟩], [])) := by
  refine LC_of (X := XX (fun | 3 => .one 0 (.one 1 (.one 2 (.one 3 (.one 4 (.one 5 (.one 6 (.one 7 (.one 8 (.one 9 (.one 10 (.one 11 (.one 12 (.one 13 (.one 14 (.one 15 (.one 16 (.one 17 (.one 18 (.one 19 (.one 20 (.one 21 (.one 22 .nil)))))))))))))))))))))) | 7 => .one 0 (.one 1 (.one 2 (.one 3 (.one 4 (.one 5 (.one 6 (.one 7 (.one 8 (.one 9 (.one 10 (.one 11 (.one 12 (.one 13 (.one 14 (.one 15 (.one 16 (.one 17 (.one 18 (.one 19 (.one 20 (.one 21 (.one 22 (.one 23 (.one 24 (.one 25 (.one 26 (.one 27 (.one 28 (.one 29 (.one 30 (.one 31 (.one 32 (.one 33 (.one 34 (.one 35 (.one 36 (.one 37 (.one 38 (.one 39 (.one 40 .nil)))))))))))))))))))))))))))))))))))))))) | _ => .nil) (fun _ => []) [22, 24, 25, 36, 42, 47, 90] 2) envOK Try.func90 (by kernel_rfl) (by kernel_rfl) rfl (Nat.le_of_ble_eq_true (by kernel_rfl)) ?_
  simp only [kFun, Try.f90, List.length_nil, List.length_cons, Nat.sub_zero, Nat.reduceSub, Nat.reduceAdd, List.nil_append, List.cons_append, List.replicate_succ, List.replicate_zero]
  simp only [XX, ↓VC, VP, TT, List.getElem?_toArray, Nat.reduceEqDiff, reduceCtorEq, Nat.reduceAdd, Nat.reduceSub, Nat.reduceLT, Nat.reduceMul, Nat.reducePow, Nat.reduceLeDiff, Int.reduceToNat, Int.reduceLE, Int.reduceLT, Int.reducePow]
  refine kLoop_of (fun c : Nat => ([.p 0 0, .s 1 0 N N, .j, .j, .c (.int .i64 ((4 * c : Nat))), .j, .j, .j, .j, .j, .j, .j, .j, .j, .j, .j, .j, .j, .j, .j, .j, .j, .j, .j, .j, .j, .j, .j, .j, .j, .j, .j, .j, .j, .j, .j, .j, .j, .j, .j, .j, .j, .j, .j, .j, .j, .j, .j, .j, .j, .j, .j, .j, .j, .j, .j, .j, .j, .j, .j, .j, .j, .j, .j, .j, .j, .j, .j, .j, .j, .j, .j, .j, .j, .j, .j, .j, .j, .j], [⟨false, bs (tabL m A)⟩, ⟨true, bs (fl N (fun x => s.getD x 0) (fun x => mixB m A s x 4) (4 * c))⟩])) (fun c => q - c) (fun c => c ≤ q) 0 (by omega)
    ⟨[0, 1], by rw [← fl_start hs]; simp [-List.reduceReplicate, LES]⟩ ?_
  intro c hc
  rcases Nat.lt_or_ge c q with h | h
  · have w1 : IntKind.i64.wrap (((4 * c : Nat) : Int) + 1) = ((4 * c + 1 : Nat) : Int) := by rw [wrap_i64 (by omega) (by omega)]; omega
    have w2 : IntKind.i64.wrap (((4 * c : Nat) : Int) + 2) = ((4 * c + 2 : Nat) : Int) := by rw [wrap_i64 (by omega) (by omega)]; omega
    have w3 : IntKind.i64.wrap (((4 * c : Nat) : Int) + 3) = ((4 * c + 3 : Nat) : Int) := by rw [wrap_i64 (by omega) (by omega)]; omega
    have w4 : IntKind.i64.wrap (((4 * c : Nat) : Int) + 4) = ((4 * (c + 1) : Nat) : Int) := by rw [wrap_i64 (by omega) (by omega)]; omega
    have ge0 : ∀ k, k < 4 → (fl N (fun x => s.getD x 0) (fun x => mixB m A s x 4) (4 * c)).getD (4 * c + k) 0 = s.getD (4 * c + k) 0 := fun k hk => by
      rw [fl_get (by omega), if_neg (by omega)]
    have g0 := ge0 0 (by omega)
    rw [Nat.add_zero] at g0
    simp only [↓VC, VP, TT, List.getElem?_toArray, Nat.reduceEqDiff, reduceCtorEq, Nat.reduceAdd, Nat.reduceSub, Nat.reduceLT, Nat.reduceMul, Nat.reducePow, Nat.reduceLeDiff, Int.reduceToNat, Int.reduceLE, Int.reduceLT, Int.reducePow, w1, w2, w3, fl_len, decide_true, g0, ge0 1 (by omega), ge0 2 (by omega), ge0 3 (by omega), (eq_true (by omega) : (((4 * c : Nat) : Int) < (N : Int)) = True), (eq_true (by omega) : (((4 * c + 1 : Nat) : Int) < (N : Int)) = True), (eq_true (by omega) : (((4 * c + 2 : Nat) : Int) < (N : Int)) = True), (eq_true (by omega) : (((4 * c + 3 : Nat) : Int) < (N : Int)) = True),
      (eq_true (by omega) : (4 * c < N) = True), (eq_true (by omega) : (4 * c + 1 < N) = True), (eq_true (by omega) : (4 * c + 2 < N) = True), (eq_true (by omega) : (4 * c + 3 < N) = True)]
    refine kLoop_of (fun i : Nat => ([.p 0 0, .s 1 0 N N, .j, .j, .c (.int .i64 ((4 * c : Nat))), .c (.int .u8 ((s.getD (4 * c) 0).toNat : Int)), .c (.int .u8 ((s.getD (4 * c + 1) 0).toNat : Int)), .c (.int .u8 ((s.getD (4 * c + 2) 0).toNat : Int)), .c (.int .u8 ((s.getD (4 * c + 3) 0).toNat : Int)), .j, .j, .j, .j, .j, .j, .j, .j, .j, .j, .j, .j, .j, .j, .j, .j, .j, .j, .j, .j, .j, .j, .j, .j, .j, .j, .c (.int .i64 (i)), .j, .j, .j, .j, .j, .j, .j, .j, .j, .j, .j, .j, .j, .j, .j, .j, .j, .j, .j, .j, .j, .j, .j, .j, .j, .j, .j, .j, .j, .j, .j, .j, .j, .j, .j, .j, .j, .j, .j, .j, .j, .j, .j], [⟨false, bs (tabL m A)⟩, ⟨true, bs (fl N (fun x => s.getD x 0) (fun x => mixB m A s x 4) (4 * c + i))⟩])) (fun i => 4 - i) (fun i => i ≤ 4) 0 (by omega)
      ⟨[0, 1], by simp [-List.reduceReplicate, LES]⟩ ?_
    intro i hi
    rcases Nat.lt_or_ge i 4 with h2 | h2
    · have w5 : IntKind.i64.wrap (((4 * c : Nat) : Int) + i) = ((4 * c + i : Nat) : Int) := by rw [wrap_i64 (by omega) (by omega)]; omega
      have hu : ∀ k, k < 4 → i * 1024 + k * 256 + (s.getD (4 * c + k) 0).toNat < 4096 := fun k hk => by
        have := (s.getD (4 * c + k) 0).toNat_lt; omega
      have t0 := tab_at (m := m) (A := A) h2 (k := 0) (by omega) (s.getD (4 * c) 0)
      have t1 := tab_at (m := m) (A := A) h2 (k := 1) (by omega) (s.getD (4 * c + 1) 0)
      have t2 := tab_at (m := m) (A := A) h2 (k := 2) (by omega) (s.getD (4 * c + 2) 0)
      have t3 := tab_at (m := m) (A := A) h2 (k := 3) (by omega) (s.getD (4 * c + 3) 0)
      have u0 := hu 0 (by omega); have u1 := hu 1 (by omega); have u2 := hu 2 (by omega); have u3 := hu 3 (by omega)
      simp only [Nat.zero_mul, Nat.one_mul, Nat.add_zero, Nat.reduceMul] at t0 t1 t2 t3 u0 u1 u2 u3
      have hb : ∀ u : UInt8, ((u.toNat : Int) < ((256 : Nat) : Int)) = True := fun u => eq_true (by have := u.toNat_lt; omega)
      simp only [↓VC, VP, TT, List.getElem?_toArray, Nat.reduceEqDiff, reduceCtorEq, Nat.reduceAdd, Nat.reduceSub, Nat.reduceLT, Nat.reduceMul, Nat.reducePow, Nat.reduceLeDiff, Int.reduceToNat, Int.reduceLE, Int.reduceLT, Int.reducePow, h2, (eq_true (by omega) : ((i : Int) < 4) = True), (eq_true (by omega) : ((i : Int) < ((4 : Nat) : Int)) = True), wrap_i64 (n := (i : Int) + 1) (by omega) (by omega), decide_true, w5, fl_len, tabL_len, hb, Nat.add_zero, t0, t1, t2, t3, u0, u1, u2, u3, (eq_true (by omega) : (((4 * c + i : Nat) : Int) < (N : Int)) = True), (eq_true (by omega) : (4 * c + i < N) = True)]
      refine ⟨by omega, by omega, by omega, by omega, i + 1, by omega, by omega, [0, 1], ?_⟩
      rw [fl_set (by omega) (by rw [mixB_four, show (4 * c + i) % 4 = i by omega, show (4 * c + i) / 4 = c by omega])]
      simp [-List.reduceReplicate, LES]; exact .inr rfl
    · obtain rfl : i = 4 := by omega
      simp only [↓VC, VP, TT, List.getElem?_toArray, Nat.reduceEqDiff, reduceCtorEq, Nat.reduceAdd, Nat.reduceSub, Nat.reduceLT, Nat.reduceMul, Nat.reducePow, Nat.reduceLeDiff, Int.reduceToNat, Int.reduceLE, Int.reduceLT, Int.reducePow, (eq_false (by omega) : (((4 : Nat) : Int) < 4) = False), decide_false, w4]
      exact ⟨c + 1, by omega, by omega, [0, 1], by simp [-List.reduceReplicate, LES]; exact .inr rfl⟩
  · obtain rfl : c = q := by omega
    simp only [↓VC, VP, TT, List.getElem?_toArray, Nat.reduceEqDiff, reduceCtorEq, Nat.reduceAdd, Nat.reduceSub, Nat.reduceLT, Nat.reduceMul, Nat.reducePow, Nat.reduceLeDiff, Int.reduceToNat, Int.reduceLE, Int.reduceLT, Int.reducePow, (eq_false (by omega) : (((4 * c : Nat) : Int) < (N : Int)) = False), decide_false]
    subst hN
    rw [fl_done]
    refine ⟨_, _, [0, 1], ⟨(), trivial, rfl, rfl⟩, ?_⟩
    simp [-List.reduceReplicate, LES, mixL]
end Go.Proofs.Ytledcckafhpgaaa
