import Derived.Test.YtahnjhppkgndiaaGreatEngE
/- Mixing by tables. -/
set_option linter.unusedSimpArgs false
set_option linter.unusedVariables false
namespace Go.Proofs.YtahnjhppkgndiaaGreat
open Go Go.Vc
set_option maxRecDepth 10000
set_option maxHeartbeats 1000000
theorem tab_at {m : Nat} {A : List UInt8} {i k : Nat} (hi : i < 4) (hk : k < 4) (u : UInt8) : (tabL m A).getD (i * 1024 + k * 256 + u.toNat) 0 = tmul m (A.getD (i * 4 + k) 0) u := by
  rw [← tabL_get (m := m) (A := A) (k := i * 4 + k) (by omega) u, show (i * 4 + k) * 256 + u.toNat = i * 1024 + k * 256 + u.toNat by omega]
theorem c_mix (m : Nat) (A s : List UInt8) (N q : Nat) (hN : N = 4 * q) (hq : q ≤ 4) (hs : s.length = N) : LC Tryz.prog 212 [.p 0 0, .s 1 0 N N] [⟨false, bs (tabL m A)⟩, ⟨true, bs s⟩]
    (RetM (fun _ : Unit => True) fun _ => (.t [], [⟨false, bs (tabL m A)⟩, ⟨true, bs (mixL N m A s)⟩], [])) := by
  refine LC_of (X := XX (fun | 3 => .one 0 (.one 1 (.one 2 (.one 3 (.one 4 (.one 5 (.one 6 (.one 7 (.one 8 (.one 9 (.one 10 (.one 11 (.one 12 (.one 13 (.one 14 (.one 15 (.one 16 (.one 17 (.one 18 (.one 19 (.one 20 (.one 21 (.one 22 .nil)))))))))))))))))))))) | 7 => .one 0 (.one 1 (.one 2 (.one 3 (.one 4 (.one 5 (.one 6 (.one 7 (.one 8 (.one 9 (.one 10 (.one 11 (.one 12 (.one 13 (.one 14 (.one 15 (.one 16 (.one 17 (.one 18 (.one 19 (.one 20 (.one 21 (.one 22 (.one 23 (.one 24 (.one 25 (.one 26 (.one 27 (.one 28 (.one 29 (.one 30 (.one 31 (.one 32 (.one 33 (.one 34 (.one 35 (.one 36 (.one 37 (.one 38 (.one 39 (.one 40 .nil)))))))))))))))))))))))))))))))))))))))) | _ => .nil) (fun _ => []) [15, 71, 72, 73, 79, 80, 87, 90, 91, 93, 99, 119, 137, 176, 177, 203, 204, 212, 219] 2) envOK Tryz.func212 (by kernel_rfl) (by kernel_rfl) rfl (Nat.le_of_ble_eq_true (by kernel_rfl)) ?_
  simp only [kFun, Tryz.f212, List.length_nil, List.length_cons, Nat.sub_zero, Nat.reduceSub, Nat.reduceAdd, List.nil_append, List.cons_append, List.replicate_succ, List.replicate_zero]
  simp only [XX, ↓VC, VP, TT, Nat.reduceEqDiff, reduceCtorEq, Nat.reduceAdd, Nat.reduceSub, Nat.reduceLT, Nat.reduceMul, Nat.reducePow, Nat.reduceLeDiff, Int.reduceToNat, Int.reduceLE, Int.reduceLT, Int.reducePow]
  refine kLoop_of (fun c : Nat => ([.p 0 0, .s 1 0 N N, .j, .j, .c (.int .i64 ((4 * c : Nat))), .j, .j, .j, .j, .j, .j, .j, .j, .j, .j, .j, .j, .j, .j, .j, .j, .j, .j, .j, .j, .j, .j, .j, .j, .j, .j, .j, .j, .j, .j, .j, .j, .j, .j, .j, .j, .j, .j, .j, .j, .j, .j, .j, .j, .j, .j, .j, .j, .j, .j, .j, .j, .j, .j, .j, .j, .j, .j, .j, .j, .j, .j, .j, .j, .j, .j, .j, .j, .j, .j, .j, .j, .j, .j], [⟨false, bs (tabL m A)⟩, ⟨true, bs (fl N (fun x => s.getD x 0) (fun x => mixB m A s x 4) (4 * c))⟩])) (fun c => q - c) (fun c => c ≤ q) 0 (by omega)
    ⟨[0, 1], by rw [← fl_start hs]; simp [-List.reduceReplicate, LES]⟩ ?_
  intro c hc
  rcases Nat.lt_or_ge c q with h | h
  · have w1 : IntKind.i64.wrap (((4 * c : Nat) : Int) + 1) = ((4 * c + 1 : Nat) : Int) := by rw [wrap_i64 (by omega) (by omega)]; omega
    have w2 : IntKind.i64.wrap (((4 * c : Nat) : Int) + 2) = ((4 * c + 2 : Nat) : Int) := by rw [wrap_i64 (by omega) (by omega)]; omega
    have w3 : IntKind.i64.wrap (((4 * c : Nat) : Int) + 3) = ((4 * c + 3 : Nat) : Int) := by rw [wrap_i64 (by omega) (by omega)]; omega
    have w4 : IntKind.i64.wrap (((4 * c : Nat) : Int) + 4) = ((4 * (c + 1) : Nat) : Int) := by rw [wrap_i64 (by omega) (by omega)]; omega
    have ge0 : ∀ k, k < 4 → (fl N (fun x => s.getD x 0) (fun x => mixB m A s x 4) (4 * c)).getD (4 * c + k) 0 = s.getD (4 * c + k) 0 := fun k hk => by
      rw [fl_get (by omega), if_neg (by omega)]
    have g0 := ge0 0 (by omega)
    rw [Nat.add_zero] at g0
    simp only [↓VC, VP, TT, Nat.reduceEqDiff, reduceCtorEq, Nat.reduceAdd, Nat.reduceSub, Nat.reduceLT, Nat.reduceMul, Nat.reducePow, Nat.reduceLeDiff, Int.reduceToNat, Int.reduceLE, Int.reduceLT, Int.reducePow, w1, w2, w3, fl_len, decide_true, g0, ge0 1 (by omega), ge0 2 (by omega), ge0 3 (by omega), (eq_true (by omega) : (((4 * c : Nat) : Int) < (N : Int)) = True), (eq_true (by omega) : (((4 * c + 1 : Nat) : Int) < (N : Int)) = True), (eq_true (by omega) : (((4 * c + 2 : Nat) : Int) < (N : Int)) = True), (eq_true (by omega) : (((4 * c + 3 : Nat) : Int) < (N : Int)) = True),
      (eq_true (by omega) : (4 * c < N) = True), (eq_true (by omega) : (4 * c + 1 < N) = True), (eq_true (by omega) : (4 * c + 2 < N) = True), (eq_true (by omega) : (4 * c + 3 < N) = True)]
    refine kLoop_of (fun i : Nat => ([.p 0 0, .s 1 0 N N, .j, .j, .c (.int .i64 ((4 * c : Nat))), .c (.int .u8 ((s.getD (4 * c) 0).toNat : Int)), .c (.int .u8 ((s.getD (4 * c + 1) 0).toNat : Int)), .c (.int .u8 ((s.getD (4 * c + 2) 0).toNat : Int)), .c (.int .u8 ((s.getD (4 * c + 3) 0).toNat : Int)), .j, .j, .j, .j, .j, .j, .j, .j, .j, .j, .j, .j, .j, .j, .j, .j, .j, .j, .j, .j, .j, .j, .j, .j, .j, .j, .c (.int .i64 (i)), .j, .j, .j, .j, .j, .j, .j, .j, .j, .j, .j, .j, .j, .j, .j, .j, .j, .j, .j, .j, .j, .j, .j, .j, .j, .j, .j, .j, .j, .j, .j, .j, .j, .j, .j, .j, .j, .j, .j, .j, .j, .j, .j], [⟨false, bs (tabL m A)⟩, ⟨true, bs (fl N (fun x => s.getD x 0) (fun x => mixB m A s x 4) (4 * c + i))⟩])) (fun i => 4 - i) (fun i => i ≤ 4) 0 (by omega)
      ⟨[0, 1], by simp [-List.reduceReplicate, LES]⟩ ?_
    intro i hi
    rcases Nat.lt_or_ge i 4 with h2 | h2
    · have w5 : IntKind.i64.wrap (((4 * c : Nat) : Int) + i) = ((4 * c + i : Nat) : Int) := by rw [wrap_i64 (by omega) (by omega)]; omega
      have hu : ∀ k, k < 4 → i * 1024 + k * 256 + (s.getD (4 * c + k) 0).toNat < 4096 := fun k hk => by
        have := (s.getD (4 * c + k) 0).toNat_lt; omega
      have t0 := tab_at (m := m) (A := A) h2 (k := 0) (by omega) (s.getD (4 * c) 0)
      have t1 := tab_at (m := m) (A := A) h2 (k := 1) (by omega) (s.getD (4 * c + 1) 0)
      have t2 := tab_at (m := m) (A := A) h2 (k := 2) (by omega) (s.getD (4 * c + 2) 0)
      have t3 := tab_at (m := m) (A := A) h2 (k := 3) (by omega) (s.getD (4 * c + 3) 0)
      have u0 := hu 0 (by omega); have u1 := hu 1 (by omega); have u2 := hu 2 (by omega); have u3 := hu 3 (by omega)
      simp only [Nat.zero_mul, Nat.one_mul, Nat.add_zero, Nat.reduceMul] at t0 t1 t2 t3 u0 u1 u2 u3
      have hb : ∀ u : UInt8, ((u.toNat : Int) < ((256 : Nat) : Int)) = True := fun u => eq_true (by have := u.toNat_lt; omega)
      simp only [↓VC, VP, TT, Nat.reduceEqDiff, reduceCtorEq, Nat.reduceAdd, Nat.reduceSub, Nat.reduceLT, Nat.reduceMul, Nat.reducePow, Nat.reduceLeDiff, Int.reduceToNat, Int.reduceLE, Int.reduceLT, Int.reducePow, h2, (eq_true (by omega) : ((i : Int) < 4) = True), (eq_true (by omega) : ((i : Int) < ((4 : Nat) : Int)) = True), wrap_i64 (n := (i : Int) + 1) (by omega) (by omega), decide_true, w5, fl_len, tabL_len, hb, Nat.add_zero, t0, t1, t2, t3, u0, u1, u2, u3, (eq_true (by omega) : (((4 * c + i : Nat) : Int) < (N : Int)) = True), (eq_true (by omega) : (4 * c + i < N) = True)]
      refine ⟨by omega, by omega, by omega, by omega, i + 1, by omega, by omega, [0, 1], ?_⟩
      rw [fl_set (by omega) (by rw [mixB_four, show (4 * c + i) % 4 = i by omega, show (4 * c + i) / 4 = c by omega])]
      simp [-List.reduceReplicate, LES]; exact .inr rfl
    · obtain rfl : i = 4 := by omega
      simp only [↓VC, VP, TT, Nat.reduceEqDiff, reduceCtorEq, Nat.reduceAdd, Nat.reduceSub, Nat.reduceLT, Nat.reduceMul, Nat.reducePow, Nat.reduceLeDiff, Int.reduceToNat, Int.reduceLE, Int.reduceLT, Int.reducePow, (eq_false (by omega) : (((4 : Nat) : Int) < 4) = False), decide_false, w4]
      exact ⟨c + 1, by omega, by omega, [0, 1], by simp [-List.reduceReplicate, LES]; exact .inr rfl⟩
  · obtain rfl : c = q := by omega
    simp only [↓VC, VP, TT, Nat.reduceEqDiff, reduceCtorEq, Nat.reduceAdd, Nat.reduceSub, Nat.reduceLT, Nat.reduceMul, Nat.reducePow, Nat.reduceLeDiff, Int.reduceToNat, Int.reduceLE, Int.reduceLT, Int.reducePow, (eq_false (by omega) : (((4 * c : Nat) : Int) < (N : Int)) = False), decide_false]
    subst hN
    rw [fl_done]
    refine ⟨_, _, [0, 1], ⟨(), trivial, rfl, rfl⟩, ?_⟩
    simp [-List.reduceReplicate, LES, mixL]
end Go.Proofs.YtahnjhppkgndiaaGreat
/- The tables. -/
set_option linter.unusedSimpArgs false
set_option linter.unusedVariables false
namespace Go.Proofs.YtahnjhppkgndiaaGreat
open Go Go.Vc
set_option maxRecDepth 10000
set_option maxHeartbeats 1000000
theorem or_tab : ∀ k, k < 8 → ∀ l, l < 128 → l < 2 ^ k → bitI .or .i64 ((2 ^ k : Nat) : Int) (l : Nat) = ((2 ^ k + l : Nat) : Int) ∧ UInt8.ofInt ((2 ^ k : Nat) : Int) ^^^ UInt8.ofInt ((l : Nat) : Int) = UInt8.ofInt ((2 ^ k + l : Nat) : Int) := by decide +kernel
theorem pow8 : ∀ k, k < 8 → 2 ^ k ≤ 128 := by decide
theorem row_get {A : List UInt8} {i j : Nat} (hj : j < 4) (hA : A.length = 16) (hi : i < 4) : ((A.drop (i * 4)).take 4).getD j 0 = A.getD (i * 4 + j) 0 := by
  simp [List.getD, List.getElem?_take, hj]
theorem c_newMixer (m : Nat) (A : List UInt8) (hm : 256 ≤ m) (hm' : m < 512) (hA : A.length = 16) : LC Tryz.prog 143 [.c (.int .i64 (m)), .a (bs A)] [] (Ret [] (fun _ : Unit => True) fun _ => (.p 0 0, [⟨true, bs (tabL m A)⟩])) := by
  refine LC_of (X := XX (fun | 15 => .one 0 (.one 1 (.one 2 (.one 3 (.one 4 (.one 5 (.one 6 (.one 7 (.one 8 (.one 9 (.one 10 (.one 11 (.one 12 (.one 13 (.one 14 (.one 15 (.one 16 (.one 17 (.one 18 (.one 19 (.one 20 (.one 21 .nil))))))))))))))))))))) | _ => .nil) (fun _ => []) [15, 71, 72, 73, 79, 80, 87, 90, 91, 93, 99, 119, 137, 176, 177, 203, 204, 212, 219] 0) envOK Tryz.func143 (by kernel_rfl) (by kernel_rfl) rfl (Nat.le_of_ble_eq_true (by kernel_rfl)) ?_
  simp only [kFun, Tryz.f143, List.length_nil, List.length_cons, Nat.sub_zero, Nat.reduceSub, Nat.reduceAdd, List.nil_append, List.cons_append, List.replicate_succ, List.replicate_zero]
  simp only [XX, ↓VC, VP, TT, Nat.reduceEqDiff, reduceCtorEq, Nat.reduceAdd, Nat.reduceSub, Nat.reduceLT, Nat.reduceMul, Nat.reducePow, Nat.reduceLeDiff, Int.reduceToNat, Int.reduceLE, Int.reduceLT, Int.reducePow, hA]
  refine kLoop_of (fun i : Nat => ([.c (.int .i64 (m)), .j, .j, .p 0 0, .j, .p 1 0, .j, .j, .j, .j, .j, .j, .j, .j, .c (.int .i64 (i)), .j, .j, .j, .j, .j, .j, .j, .j, .j, .j, .j, .j, .j, .j, .j, .j, .j, .j, .j, .j, .j, .j, .j, .j, .j, .j, .j, .j, .j, .j, .j, .j, .j, .j, .j, .j, .j, .j, .j, .j, .j, .j, .j, .j, .j, .j, .j], [⟨true, bs A⟩, ⟨true, bs (fl 4096 (fun _ => 0) (tabB m A) (1024 * i))⟩])) (fun i => 4 - i) (fun i => i ≤ 4) 0 (by omega)
    ⟨[0, 1], by rw [Nat.mul_zero, ← fl_zero]; simp [-List.reduceReplicate, LES]⟩ ?_
  intro i hi
  rcases Nat.lt_or_ge i 4 with h | h
  · simp only [↓VC, VP, TT, Nat.reduceEqDiff, reduceCtorEq, Nat.reduceAdd, Nat.reduceSub, Nat.reduceLT, Nat.reduceMul, Nat.reducePow, Nat.reduceLeDiff, Int.reduceToNat, Int.reduceLE, Int.reduceLT, Int.reducePow, hA, h, (eq_true (by omega) : ((i : Int) < 4) = True), (eq_true (by omega) : ((i : Int) < ((4 : Nat) : Int)) = True), wrap_i64 (n := (i : Int) + 1) (by omega) (by omega), decide_true, (eq_true (by omega) : (i * 4 + 4 ≤ 16) = True)]
    refine kLoop_of (fun j : Nat => ([.c (.int .i64 (m)), .j, .j, .p 0 0, .j, .p 1 0, .c (.int .i64 (i)), .j, .j, .j, .j, .j, .j, .j, .c (.int .i64 (i)), .j, .j, .j, .j, .a (bs ((A.drop (i * 4)).take 4)), .c (.int .i64 (j)), .j, .j, .j, .j, .j, .j, .j, .j, .j, .j, .j, .j, .j, .j, .j, .j, .j, .j, .j, .j, .j, .j, .j, .j, .j, .j, .j, .j, .j, .j, .j, .j, .j, .j, .j, .j, .j, .j, .j, .j, .j], [⟨true, bs A⟩, ⟨true, bs (fl 4096 (fun _ => 0) (tabB m A) (1024 * i + 256 * j))⟩])) (fun j => 4 - j) (fun j => j ≤ 4) 0 (by omega)
      ⟨[0, 1], by simp [-List.reduceReplicate, LES]⟩ ?_
    intro j hj
    rcases Nat.lt_or_ge j 4 with h2 | h2
    · have hrl : ((A.drop (i * 4)).take 4).length = 4 := by rw [List.length_take, List.length_drop]; omega
      simp only [↓VC, VP, TT, Nat.reduceEqDiff, reduceCtorEq, Nat.reduceAdd, Nat.reduceSub, Nat.reduceLT, Nat.reduceMul, Nat.reducePow, Nat.reduceLeDiff, Int.reduceToNat, Int.reduceLE, Int.reduceLT, Int.reducePow, hrl, h2, (eq_true (by omega) : ((j : Int) < 4) = True), (eq_true (by omega) : ((j : Int) < ((4 : Nat) : Int)) = True), wrap_i64 (n := (j : Int) + 1) (by omega) (by omega), decide_true, row_get h2 hA h]
      refine kLoop_of (fun k : Nat => ([.c (.int .i64 (m)), .j, .j, .p 0 0, .j, .p 1 0, .c (.int .i64 (i)), .c (.int .i64 (j)), .c (.int .u8 ((A.getD (i * 4 + j) 0).toNat : Int)), .c (.int .i64 ((2 ^ k : Nat))), .j, .j, .j, .j, .c (.int .i64 (i)), .j, .j, .j, .j, .a (bs ((A.drop (i * 4)).take 4)), .c (.int .i64 (j)), .j, .j, .j, .j, .j, .j, .j, .j, .j, .j, .j, .j, .j, .j, .j, .j, .j, .j, .j, .j, .j, .j, .j, .j, .j, .j, .j, .j, .j, .j, .j, .j, .j, .j, .j, .j, .j, .j, .j, .j, .j], [⟨true, bs A⟩, ⟨true, bs (fl 4096 (fun _ => 0) (tabB m A) (1024 * i + 256 * j + 2 ^ k))⟩])) (fun k => 8 - k) (fun k => k ≤ 8) 0 (by omega)
        ⟨[0, 1], by
          have e : fl 4096 (fun _ => 0) (tabB m A) (1024 * i + 256 * j + 2 ^ 0) = fl 4096 (fun _ => 0) (tabB m A) (1024 * i + 256 * j) := by
            have h0 : tabB m A (1024 * i + 256 * j) = 0 := by
              unfold tabB; rw [show (1024 * i + 256 * j) % 256 = 0 by omega]; exact tmul_zero' _ _
            have h1 := fl_set (n := 4096) (f0 := fun _ => 0) (g := tabB m A) (i := 1024 * i + 256 * j) (v := 0) (by omega) h0.symm
            have h2 := fl_set_same (n := 4096) (f0 := fun _ => 0) (g := tabB m A) (i := 1024 * i + 256 * j) (by omega)
            rw [show 2 ^ 0 = 1 from rfl, ← h1]; exact h2
          rw [e]; simp [-List.reduceReplicate, LES]⟩ ?_
      intro k hk
      rcases Nat.lt_or_ge k 8 with h3 | h3
      · have hp := pow8 k h3
        have hp0 : 0 < 2 ^ k := Nat.two_pow_pos k
        have hconv : IntKind.u8.wrap (((2 ^ k : Nat) : Int)) = (((UInt8.ofInt ((2 ^ k : Nat) : Int)).toNat : Nat) : Int) := wrap_u8 _
        simp only [↓VC, VP, TT, Nat.reduceEqDiff, reduceCtorEq, Nat.reduceAdd, Nat.reduceSub, Nat.reduceLT, Nat.reduceMul, Nat.reducePow, Nat.reduceLeDiff, Int.reduceToNat, Int.reduceLE, Int.reduceLT, Int.reducePow, (eq_true (by omega) : (((2 ^ k : Nat) : Int) < 256) = True), decide_true, hconv]
        refine kCall_val (c_impl_times m (A.getD (i * 4 + j) 0) (UInt8.ofInt ((2 ^ k : Nat) : Int)) hm hm') (by rfl) [] (by simp [CALL]) (by simp [CALL, cellsAt]) (by simp [CALL]) (by simp [okL_bs]) ?_
        simp only [CALL, ↓VC, VP, TT, Nat.reduceEqDiff, reduceCtorEq, Nat.reduceAdd, Nat.reduceSub, Nat.reduceLT, Nat.reduceMul, Nat.reducePow, Nat.reduceLeDiff, Int.reduceToNat, Int.reduceLE, Int.reduceLT, Int.reducePow]
        refine kLoop_of (fun l : Nat => ([.c (.int .i64 (m)), .j, .j, .p 0 0, .j, .p 1 0, .c (.int .i64 (i)), .c (.int .i64 (j)), .c (.int .u8 ((A.getD (i * 4 + j) 0).toNat : Int)), .c (.int .i64 ((2 ^ k : Nat))), .c (.int .u8 ((tmul m (A.getD (i * 4 + j) 0) (UInt8.ofInt ((2 ^ k : Nat) : Int))).toNat : Int)), .j, .j, .j, .c (.int .i64 (i)), .j, .j, .j, .j, .a (bs ((A.drop (i * 4)).take 4)), .c (.int .i64 (j)), .j, .j, .j, .j, .j, .j, .j, .j, .j, .j, .j, .j, .c (.int .i64 ((2 ^ k : Nat))), .c (.int .i64 (l)), .j, .j, .j, .j, .j, .j, .j, .j, .j, .j, .j, .j, .j, .j, .j, .j, .j, .j, .j, .j, .j, .j, .j, .j, .j, .j, .j], [⟨true, bs A⟩, ⟨true, bs (fl 4096 (fun _ => 0) (tabB m A) (1024 * i + 256 * j + 2 ^ k + l))⟩])) (fun l => 2 ^ k - l) (fun l => l ≤ 2 ^ k) 0 (by omega)
          ⟨[0, 1], by simp [-List.reduceReplicate, LES]⟩ ?_
        intro l hl
        rcases Nat.lt_or_ge l (2 ^ k) with h4 | h4
        · obtain ⟨o1, o2⟩ := or_tab k h3 l (by omega) h4
          have e1 : (fl 4096 (fun _ => 0) (tabB m A) (1024 * i + 256 * j + 2 ^ k + l)).getD (i * 1024 + j * 256 + l) 0 = tabB m A (1024 * i + 256 * j + l) := by
            rw [fl_get (by omega), if_pos (by omega), show i * 1024 + j * 256 + l = 1024 * i + 256 * j + l by omega]
          have e2 : tmul m (A.getD (i * 4 + j) 0) (UInt8.ofInt ((2 ^ k : Nat) : Int)) ^^^ tabB m A (1024 * i + 256 * j + l) = tabB m A (1024 * i + 256 * j + 2 ^ k + l) := by
            unfold tabB
            rw [show (1024 * i + 256 * j + l) / 256 = i * 4 + j by omega, show (1024 * i + 256 * j + l) % 256 = l by omega, show (1024 * i + 256 * j + 2 ^ k + l) / 256 = i * 4 + j by omega,
              show (1024 * i + 256 * j + 2 ^ k + l) % 256 = 2 ^ k + l by omega, ← tmul_xor, o2]
          simp only [↓VC, VP, TT, Nat.reduceEqDiff, reduceCtorEq, Nat.reduceAdd, Nat.reduceSub, Nat.reduceLT, Nat.reduceMul, Nat.reducePow, Nat.reduceLeDiff, Int.reduceToNat, Int.reduceLE, Int.reduceLT, Int.reducePow, fl_len, o1, e1, e2, (eq_true (by omega) : ((l : Int) < ((2 ^ k : Nat) : Int)) = True), decide_true, h, h2, (eq_true (by omega) : ((i : Int) < ((4 : Nat) : Int)) = True), (eq_true (by omega) : ((j : Int) < ((4 : Nat) : Int)) = True),
            (eq_true (by omega) : ((l : Int) < ((256 : Nat) : Int)) = True), (eq_true (by omega) : (((2 ^ k + l : Nat) : Int) < ((256 : Nat) : Int)) = True), (eq_true (by omega) : (i * 1024 + j * 256 + l < 4096) = True), (eq_true (by omega) : (i * 1024 + j * 256 + (2 ^ k + l) < 4096) = True),
            wrap_i64 (n := (l : Int) + 1) (by omega) (by omega)]
          refine ⟨l + 1, by omega, by omega, [0, 1], ?_⟩
          rw [show i * 1024 + j * 256 + (2 ^ k + l) = 1024 * i + 256 * j + 2 ^ k + l by omega, fl_set (by omega) rfl]
          simp [-List.reduceReplicate, LES]; exact .inr rfl
        · obtain rfl : l = 2 ^ k := by omega
          have w2 : IntKind.i64.wrap (((2 ^ k : Nat) : Int) * 2) = ((2 ^ (k + 1) : Nat) : Int) := by rw [wrap_i64 (by omega) (by omega), Nat.pow_succ]; omega
          simp only [↓VC, VP, TT, Nat.reduceEqDiff, reduceCtorEq, Nat.reduceAdd, Nat.reduceSub, Nat.reduceLT, Nat.reduceMul, Nat.reducePow, Nat.reduceLeDiff, Int.reduceToNat, Int.reduceLE, Int.reduceLT, Int.reducePow, (eq_false (by omega) : (((2 ^ k : Nat) : Int) < ((2 ^ k : Nat) : Int)) = False), decide_false, w2]
          refine ⟨k + 1, by omega, by omega, [0, 1], ?_⟩
          rw [show 1024 * i + 256 * j + 2 ^ k + 2 ^ k = 1024 * i + 256 * j + 2 ^ (k + 1) by rw [Nat.pow_succ]; omega]
          simp [-List.reduceReplicate, LES]
      · obtain rfl : k = 8 := by omega
        simp only [↓VC, VP, TT, Nat.reduceEqDiff, reduceCtorEq, Nat.reduceAdd, Nat.reduceSub, Nat.reduceLT, Nat.reduceMul, Nat.reducePow, Nat.reduceLeDiff, Int.reduceToNat, Int.reduceLE, Int.reduceLT, Int.reducePow, (eq_false (by decide) : (((2 ^ 8 : Nat) : Int) < 256) = False), decide_false, wrap_i64 (n := (j : Int) + 1) (by omega) (by omega)]
        refine ⟨j + 1, by omega, by omega, [0, 1], ?_⟩
        rw [show 1024 * i + 256 * j + 2 ^ 8 = 1024 * i + 256 * (j + 1) by omega]
        simp [-List.reduceReplicate, LES]
    · obtain rfl : j = 4 := by omega
      simp only [↓VC, VP, TT, Nat.reduceEqDiff, reduceCtorEq, Nat.reduceAdd, Nat.reduceSub, Nat.reduceLT, Nat.reduceMul, Nat.reducePow, Nat.reduceLeDiff, Int.reduceToNat, Int.reduceLE, Int.reduceLT, Int.reducePow, (eq_false (by omega) : (((4 : Nat) : Int) < 4) = False), decide_false, wrap_i64 (n := (i : Int) + 1) (by omega) (by omega)]
      refine ⟨i + 1, by omega, by omega, [0, 1], ?_⟩
      rw [show 1024 * i + 256 * 4 = 1024 * (i + 1) by omega]
      simp [-List.reduceReplicate, LES]
  · obtain rfl : i = 4 := by omega
    simp only [↓VC, VP, TT, Nat.reduceEqDiff, reduceCtorEq, Nat.reduceAdd, Nat.reduceSub, Nat.reduceLT, Nat.reduceMul, Nat.reducePow, Nat.reduceLeDiff, Int.reduceToNat, Int.reduceLE, Int.reduceLT, Int.reducePow, (eq_false (by omega) : (((4 : Nat) : Int) < 4) = False), decide_false]
    rw [fl_done]
    refine ⟨_, _, [1], ⟨(), trivial, rfl, rfl⟩, ?_⟩
    simp [-List.reduceReplicate, LES, tabL]
end Go.Proofs.YtahnjhppkgndiaaGreat
/- Keys of rounds, and blocks enciphered: the program's engine. -/
set_option linter.unusedSimpArgs false
set_option linter.unusedVariables false
namespace Go.Proofs.YtahnjhppkgndiaaGreat
open Go Go.Vc
set_option maxRecDepth 10000
set_option maxHeartbeats 1000000
/-- An engine's cells. -/
def engC (box bb pl bp : List UInt8) (h1 h2 : Nat) (rd : Int) : List V := bs box ++ (bs bb ++ (bs pl ++ (bs bp ++ [.p h1 0, .p h2 0, .c (.int .i64 rd)])))
/-- Their lengths. -/
structure EngL (box bb pl bp : List UInt8) : Prop where
  b : box.length = 256
  bb : bb.length = 256
  p : pl.length = 16
  bp : bp.length = 16
section
variable {rd : Int} {box bb pl bp : List UInt8} {h1 h2 : Nat} {k : V → Prop}
theorem engC_len (h : EngL box bb pl bp) : (engC box bb pl bp h1 h2 rd).length = 547 := by simp [engC, bs_length, h.b, h.bb, h.p, h.bp]
theorem eng_box (h : EngL box bb pl bp) (u : UInt8) : vGet (engC box bb pl bp h1 h2 rd) u.toNat k = k (.c (.int .u8 ((box.getD u.toNat 0).toNat : Int))) := by
  have := u.toNat_lt
  unfold engC; rw [vGet_appL (by rw [bs_length, h.b]; omega), vGet_bs, h.b]; simp; omega
theorem eng_pl (h : EngL box bb pl bp) : vSub (engC box bb pl bp h1 h2 rd) 512 16 k = k (.a (bs pl)) := by
  unfold engC
  rw [vSub_appR (by rw [bs_length, h.b]; omega), bs_length, h.b, vSub_appR (by rw [bs_length, h.bb]; omega), bs_length, h.bb, vSub_app0 (by rw [bs_length, h.p])]
theorem eng_mixer (h : EngL box bb pl bp) : vGet (engC box bb pl bp h1 h2 rd) 544 k = k (.p h1 0) := by
  unfold engC
  rw [vGet_appR (by rw [bs_length, h.b]; omega), bs_length, h.b, vGet_appR (by rw [bs_length, h.bb]; omega), bs_length, h.bb, vGet_appR (by rw [bs_length, h.p]; omega), bs_length, h.p, vGet_appR (by rw [bs_length, h.bp]; omega), bs_length, h.bp, vGet_zero]
theorem eng_rd (h : EngL box bb pl bp) : vGet (engC box bb pl bp h1 h2 rd) 546 k = k (.c (.int .i64 rd)) := by
  unfold engC
  rw [vGet_appR (by rw [bs_length, h.b]; omega), bs_length, h.b, vGet_appR (by rw [bs_length, h.bb]; omega), bs_length, h.bb, vGet_appR (by rw [bs_length, h.p]; omega), bs_length, h.p, vGet_appR (by rw [bs_length, h.bp]; omega), bs_length, h.bp]
  simp [vGet]
theorem renL_eng (σ : List Nat) : V.renL σ (engC box bb pl bp h1 h2 rd) = engC box bb pl bp (σ.getD h1 0) (σ.getD h2 0) rd := by simp [engC, V.renL, V.ren, renL_app, renL_bs]
theorem instL_eng {a b c : Nat} {R : List (Nat × Nat)} (N : Nat) : V.instL ((a, 0) :: (b, 0) :: (c, 0) :: R) N (engC box bb pl bp 1 2 rd) = engC box bb pl bp b c rd := by simp [engC, V.instL, V.inst, instL_app, instL_bs]
theorem okL_eng (N : Nat) : okL N (engC box bb pl bp h1 h2 rd) = (h1 < N ∧ h2 < N) := by simp [engC, okL, okV, okL_app, okL_bs]
end
theorem c_nextKey (box bb pl bp T1 T2 k : List UInt8) (rd r : Int) (hE : EngL box bb pl bp) (hk : k.length = 16) : LC Tryz.prog 199 [.p 0 0, .a (bs k), .c (.int .i64 (r))] [⟨false, engC box bb pl bp 1 2 rd⟩, ⟨false, bs T1⟩, ⟨false, bs T2⟩]
    (fun v hp => v = .a (bs (nextK box k r)) ∧ hp = [⟨false, engC box bb pl bp 1 2 rd⟩, ⟨false, bs T1⟩, ⟨false, bs T2⟩]) := by
  have hl := nkP_len hk box r
  refine LC_of (X := XX (fun | 1 => .one 0 (.one 1 (.one 2 (.one 3 (.one 4 (.one 5 (.one 6 (.one 7 (.one 8 (.one 9 (.one 10 (.one 11 (.one 12 (.one 13 (.one 14 .nil)))))))))))))) | 5 => .one 0 (.one 1 (.one 2 (.one 3 (.one 4 (.one 5 (.one 6 (.one 7 (.one 8 (.one 9 (.one 10 (.one 11 (.one 12 (.one 13 (.one 14 .nil)))))))))))))) | _ => .nil) (fun _ => []) [15, 71, 72, 73, 79, 80, 87, 90, 91, 93, 99, 119, 137, 176, 177, 203, 204, 212, 219] 3) envOK Tryz.func199 (by kernel_rfl) (by kernel_rfl) rfl (Nat.le_of_ble_eq_true (by kernel_rfl)) ?_
  simp only [kFun, Tryz.f199, List.length_nil, List.length_cons, Nat.sub_zero, Nat.reduceSub, Nat.reduceAdd, List.nil_append, List.cons_append, List.replicate_succ, List.replicate_zero]
  simp only [XX, ↓VC, VP, TT, Nat.reduceEqDiff, reduceCtorEq, Nat.reduceAdd, Nat.reduceSub, Nat.reduceLT, Nat.reduceMul, Nat.reducePow, Nat.reduceLeDiff, Int.reduceToNat, Int.reduceLE, Int.reduceLT, Int.reducePow, hk, wrap_u8, ↓eng_box hE, int_lt_256]
  refine ⟨by omega, by omega, by omega, ?_⟩
  refine kLoop_of (fun i : Nat => ([.p 0 0, .j, .c (.int .i64 (r)), .j, .p 3 0, .j, .p 4 0, .c (.int .i64 (i)), .j, .j, .j, .j, .j, .j, .j, .j, .j, .j, .j, .j, .j, .j, .j, .j, .j, .j, .j, .j, .j, .j, .j, .j, .j, .j, .j, .j, .j, .j, .j, .j, .j], [⟨false, engC box bb pl bp 1 2 rd⟩, ⟨false, bs T1⟩, ⟨false, bs T2⟩, ⟨true, bs (nkP box k r i)⟩, ⟨true, bs (List.replicate 16 0)⟩])) (fun i => 16 - i) (fun i => 1 ≤ i ∧ i ≤ 16) 1 (by omega)
    ⟨[0, 1, 2, 3, 4], by simp [-List.reduceReplicate, LES, renL_eng, okL_eng, nkP, ownK]⟩ ?_
  rintro i ⟨hi0, hi⟩
  rcases Nat.lt_or_ge i 16 with h | h
  · have w1 : IntKind.i64.wrap ((i : Int) - 1) = ((i - 1 : Nat) : Int) := by rw [wrap_i64 (by omega) (by omega)]; omega
    simp only [↓VC, VP, TT, Nat.reduceEqDiff, reduceCtorEq, Nat.reduceAdd, Nat.reduceSub, Nat.reduceLT, Nat.reduceMul, Nat.reducePow, Nat.reduceLeDiff, Int.reduceToNat, Int.reduceLE, Int.reduceLT, Int.reducePow, h, (eq_true (by omega) : ((i : Int) < 16) = True), (eq_true (by omega) : ((i : Int) < ((16 : Nat) : Int)) = True), wrap_i64 (n := (i : Int) + 1) (by omega) (by omega), decide_true, hl, w1, ↓eng_box hE, int_lt_256, (eq_true (by omega) : (((i - 1 : Nat) : Int) < ((16 : Nat) : Int)) = True), (eq_true (by omega) : (i - 1 < 16) = True)]
    refine ⟨i + 1, by omega, by omega, [0, 1, 2, 3, 4], ?_⟩
    have e : nkP box k r (i + 1) = (nkP box k r i).set i ((nkP box k r i).getD i 0 ^^^ box.getD ((nkP box k r i).getD (i - 1) 0).toNat 0) := by rw [nkP, ownK, if_neg (by omega)]
    rw [← e]
    simp [-List.reduceReplicate, LES, renL_eng, okL_eng]
  · obtain rfl : i = 16 := by omega
    simp only [↓VC, VP, TT, Nat.reduceEqDiff, reduceCtorEq, Nat.reduceAdd, Nat.reduceSub, Nat.reduceLT, Nat.reduceMul, Nat.reducePow, Nat.reduceLeDiff, Int.reduceToNat, Int.reduceLE, Int.reduceLT, Int.reducePow, (eq_false (by omega) : (((16 : Nat) : Int) < 16) = False), decide_false, hl]
    refine ⟨_, _, [0, 1, 2], ⟨rfl, rfl⟩, ?_⟩
    simp [-List.reduceReplicate, LES, renL_eng, okL_eng, nextK]
theorem c_impl_keys (box bb pl bp T1 T2 key : List UInt8) (rd : Int) (n : Nat) (hn : n ≤ 40) (hE : EngL box bb pl bp) (hk : key.length = 16) : LC Tryz.prog 170 [.p 0 0, .a (bs key), .c (.int .i64 (n))] [⟨false, engC box bb pl bp 1 2 rd⟩, ⟨false, bs T1⟩, ⟨false, bs T2⟩]
    (Ret [⟨false, engC box bb pl bp 1 2 rd⟩, ⟨false, bs T1⟩, ⟨false, bs T2⟩] (fun _ : Nat => True) fun r => (.s 3 0 (n + 1) (n + 1 + r), [⟨true, bs (keysL box key (n + 1)) ++ List.replicate (16 * r) .j⟩])) := by
  refine LC_of (X := XX (fun _ => .nil) (fun _ => []) [15, 71, 72, 73, 79, 80, 87, 90, 91, 93, 99, 119, 137, 176, 177, 203, 204, 212, 219] 3) envOK Tryz.func170 (by kernel_rfl) (by kernel_rfl) rfl (Nat.le_of_ble_eq_true (by kernel_rfl)) ?_
  simp only [kFun, Tryz.f170, List.length_nil, List.length_cons, Nat.sub_zero, Nat.reduceSub, Nat.reduceAdd, List.nil_append, List.cons_append, List.replicate_succ, List.replicate_zero]
  simp only [XX, ↓VC, VP, TT, Nat.reduceEqDiff, reduceCtorEq, Nat.reduceAdd, Nat.reduceSub, Nat.reduceLT, Nat.reduceMul, Nat.reducePow, Nat.reduceLeDiff, Int.reduceToNat, Int.reduceLE, Int.reduceLT, Int.reducePow, hk, repl1]
  refine kLoop_of (fun s : Nat × Nat => ([.p 0 0, .j, .c (.int .i64 (n)), .j, .p 3 0, .j, .j, .s 4 0 (s.1 + 1) (s.1 + 1 + s.2), .c (.int .i64 ((s.1 : Int) + 1)), .j, .j, .j, .j, .j, .j, .j, .j, .j, .j, .j, .j, .j, .j, .j, .j], [⟨false, engC box bb pl bp 1 2 rd⟩, ⟨false, bs T1⟩, ⟨false, bs T2⟩, ⟨true, bs (keyN box key s.1)⟩, ⟨true, bs (keysL box key (s.1 + 1)) ++ List.replicate (16 * s.2) .j⟩])) (fun s => n - s.1) (fun s => s.1 ≤ n) (0, 0) (by simp)
    ⟨[0, 1, 2, 3, 4], by simp [-List.reduceReplicate, LES, renL_eng, okL_eng, keyN, keysL_one]⟩ ?_
  rintro ⟨r, q⟩ hr
  simp only at hr
  have hl := keysL_len hk box (r + 1)
  have hkl := keyN_len hk box
  rcases Nat.lt_or_ge r n with h | h
  · simp only [↓VC, VP, TT, Nat.reduceEqDiff, reduceCtorEq, Nat.reduceAdd, Nat.reduceSub, Nat.reduceLT, Nat.reduceMul, Nat.reducePow, Nat.reduceLeDiff, Int.reduceToNat, Int.reduceLE, Int.reduceLT, Int.reducePow, (eq_true (by omega) : ((r : Int) + 1 ≤ n) = True), decide_true, hkl, repl1]
    refine kCall_val (c_nextKey box bb pl bp T1 T2 (keyN box key r) rd ((r : Int) + 1) hE (hkl r)) (by rfl) [(0, 0), (1, 0), (2, 0)] (by simp [CALL]) (by simp [CALL, cellsAt, instL_eng]) (by simp [CALL]) (by simp [okL_bs, okL_eng]) ?_
    simp only [CALL, ↓VC, VP, TT, Nat.reduceEqDiff, reduceCtorEq, Nat.reduceAdd, Nat.reduceSub, Nat.reduceLT, Nat.reduceMul, Nat.reducePow, Nat.reduceLeDiff, Int.reduceToNat, Int.reduceLE, Int.reduceLT, Int.reducePow, hkl, repl1, nextK_len (hkl r), hl]
    refine ⟨by omega, by omega, by omega, .inr (by omega), .inr trivial, fun r1 c' hc hc' => ⟨(r + 1, c' - (r + 2)), by simp only; omega, by simp only; omega, [0, 1, 2, 3, 6], ?_⟩⟩
    rw [take_room (n := (r + 1) * 16) (by rw [hl]; omega), show nextK box (keyN box key r) ((r : Int) + 1) = keyN box key (r + 1) from rfl, keys_app, show r1 = 16 * (c' - (r + 2)) by omega, show c' = r + 1 + 1 + (c' - (r + 2)) by omega, wrap_i64 (by omega) (by omega)]
    simp [-List.reduceReplicate, LES, renL_eng, okL_eng]
  · obtain rfl : r = n := by omega
    simp only [↓VC, VP, TT, Nat.reduceEqDiff, reduceCtorEq, Nat.reduceAdd, Nat.reduceSub, Nat.reduceLT, Nat.reduceMul, Nat.reducePow, Nat.reduceLeDiff, Int.reduceToNat, Int.reduceLE, Int.reduceLT, Int.reducePow, (eq_false (by omega) : ((r : Int) + 1 ≤ r) = False), decide_false]
    refine ⟨_, _, [0, 1, 2, 4], ⟨q, trivial, rfl, rfl⟩, ?_⟩
    simp [-List.reduceReplicate, LES, renL_eng, okL_eng]
end Go.Proofs.YtahnjhppkgndiaaGreat
/- Blocks enciphered by the program's engine. -/
set_option linter.unusedSimpArgs false
set_option linter.unusedVariables false
namespace Go.Proofs.YtahnjhppkgndiaaGreat
open Go Go.Vc
set_option maxRecDepth 10000
set_option maxHeartbeats 1000000
theorem takeX {X : List V} {c : Nat} : List.take (X.length + c) (X ++ List.replicate c V.j) = X ++ List.replicate c V.j := by rw [List.take_of_length_le]; simp
theorem c_encipherWith (m : Nat) (box bb pl bp A T2 key s : List UInt8) (rd : Int) (n q : Nat) (hn : n ≤ 40) (hE : EngL box bb pl bp) (hA : A.length = 16) (hpl : pl16 pl) (hk : key.length = 16) (hs : s.length = 16) :
    LC Tryz.prog 188 [.p 0 0, .s 3 0 (n + 1) (n + 1 + q), .a (bs s)] [⟨false, engC box bb pl bp 1 2 rd⟩, ⟨false, bs (tabL m A)⟩, ⟨false, bs T2⟩, ⟨false, bs (keysL box key (n + 1)) ++ List.replicate (16 * q) .j⟩]
      (fun v hp => v = .a (bs (encL m box A pl key s n)) ∧ hp = [⟨false, engC box bb pl bp 1 2 rd⟩, ⟨false, bs (tabL m A)⟩, ⟨false, bs T2⟩, ⟨false, bs (keysL box key (n + 1)) ++ List.replicate (16 * q) .j⟩]) := by
  refine LC_of (X := XX (fun | 1 => .one 0 (.one 1 (.one 2 (.one 3 (.one 4 (.one 5 .nil))))) | 10 => .one 0 (.one 1 (.one 2 (.one 3 (.one 4 (.one 5 (.one 6 .nil)))))) | 12 => .one 0 (.one 1 (.one 2 (.one 3 (.one 4 (.one 5 .nil))))) | 13 => .one 0 (.one 1 (.one 2 (.one 3 (.one 4 (.one 5 (.one 6 .nil)))))) | _ => .nil) (fun _ => []) [15, 71, 72, 73, 79, 80, 87, 90, 91, 93, 99, 119, 137, 176, 177, 203, 204, 212, 219] 4) envOK Tryz.func188 (by kernel_rfl) (by kernel_rfl) rfl (Nat.le_of_ble_eq_true (by kernel_rfl)) ?_
  simp only [kFun, Tryz.f188, List.length_nil, List.length_cons, Nat.sub_zero, Nat.reduceSub, Nat.reduceAdd, List.nil_append, List.cons_append, List.replicate_succ, List.replicate_zero]
  simp only [XX, ↓VC, VP, TT, Nat.reduceEqDiff, reduceCtorEq, Nat.reduceAdd, Nat.reduceSub, Nat.reduceLT, Nat.reduceMul, Nat.reducePow, Nat.reduceLeDiff, Int.reduceToNat, Int.reduceLE, Int.reduceLT, Int.reducePow, hs, ↓keys_load0 hk (Nat.succ_pos n)]
  refine ⟨by omega, ?_⟩
  refine kCall_val (c_impl_XorBlocks s (keyN box key 0) hs (keyN_len hk box 0)) (by rfl) [] (by simp [CALL]) (by simp [CALL, cellsAt]) (by simp [CALL]) (by simp [okL_bs]) ?_
  simp only [CALL, ↓VC, VP, TT, Nat.reduceEqDiff, reduceCtorEq, Nat.reduceAdd, Nat.reduceSub, Nat.reduceLT, Nat.reduceMul, Nat.reducePow, Nat.reduceLeDiff, Int.reduceToNat, Int.reduceLE, Int.reduceLT, Int.reducePow, hs, xorN_len]
  refine kLoop_of (fun r : Nat => ([.p 0 0, .s 3 0 (n + 1) (n + 1 + q), .j, .j, .j, .p 4 0, .p 5 0, .c (.int .i64 ((r : Int) + 1)), .j, .j, .j, .j, .j, .j, .j, .j, .j, .j, .j, .j, .j, .j, .j, .j, .j, .j, .j, .j, .j, .j, .j, .j, .j, .j, .j, .j, .j, .j, .j, .j, .j, .j, .j, .j, .j, .j, .j, .j, .j, .j, .j, .j, .j, .j, .j, .j, .j, .j, .j], [⟨false, engC box bb pl bp 1 2 rd⟩, ⟨false, bs (tabL m A)⟩, ⟨false, bs T2⟩, ⟨false, bs (keysL box key (n + 1)) ++ List.replicate (16 * q) .j⟩, ⟨true, bs (encS m box A pl key s n r)⟩, ⟨true, bs (List.replicate 16 0)⟩])) (fun r => n - r) (fun r => r ≤ n) 0 (by omega)
    ⟨[0, 1, 2, 3, 4, 5], by simp [-List.reduceReplicate, LES, renL_eng, okL_eng, encS]⟩ ?_
  intro r hr
  have hl := encS_len m box A pl key s n r
  rcases Nat.lt_or_ge r n with h | h
  · simp only [↓VC, VP, TT, Nat.reduceEqDiff, reduceCtorEq, Nat.reduceAdd, Nat.reduceSub, Nat.reduceLT, Nat.reduceMul, Nat.reducePow, Nat.reduceLeDiff, Int.reduceToNat, Int.reduceLE, Int.reduceLT, Int.reducePow, (eq_true (by omega) : ((r : Int) + 1 < ((n + 1 : Nat) : Int)) = True), decide_true, hl]
    refine kLoop_of (fun i : Nat => ([.p 0 0, .s 3 0 (n + 1) (n + 1 + q), .j, .j, .j, .p 4 0, .p 5 0, .c (.int .i64 ((r : Int) + 1)), .j, .j, .j, .j, .j, .j, .j, .j, .j, .j, .j, .j, .j, .a (bs (encS m box A pl key s n r)), .c (.int .i64 (i)), .j, .j, .j, .j, .j, .j, .j, .j, .j, .j, .j, .j, .j, .j, .j, .j, .j, .j, .j, .j, .j, .j, .j, .j, .j, .j, .j, .j, .j, .j, .j, .j, .j, .j, .j, .j], [⟨false, engC box bb pl bp 1 2 rd⟩, ⟨false, bs (tabL m A)⟩, ⟨false, bs T2⟩, ⟨false, bs (keysL box key (n + 1)) ++ List.replicate (16 * q) .j⟩, ⟨true, bs (fl 16 (fun i => (encS m box A pl key s n r).getD i 0) (fun i => box.getD ((encS m box A pl key s n r).getD i 0).toNat 0) i)⟩, ⟨true, bs (List.replicate 16 0)⟩])) (fun i => 16 - i) (fun i => i ≤ 16) 0 (by omega)
      ⟨[0, 1, 2, 3, 4, 5], by rw [← fl_start hl]; simp [-List.reduceReplicate, LES, renL_eng, okL_eng]⟩ ?_
    intro i hi
    rcases Nat.lt_or_ge i 16 with h2 | h2
    · simp only [↓VC, VP, TT, Nat.reduceEqDiff, reduceCtorEq, Nat.reduceAdd, Nat.reduceSub, Nat.reduceLT, Nat.reduceMul, Nat.reducePow, Nat.reduceLeDiff, Int.reduceToNat, Int.reduceLE, Int.reduceLT, Int.reducePow, h2, (eq_true (by omega) : ((i : Int) < 16) = True), (eq_true (by omega) : ((i : Int) < ((16 : Nat) : Int)) = True), wrap_i64 (n := (i : Int) + 1) (by omega) (by omega), decide_true, hl, fl_len, fl_set, ↓eng_box hE, int_lt_256]
      exact ⟨i + 1, by omega, by omega, [0, 1, 2, 3, 4, 5], by simp [-List.reduceReplicate, LES, renL_eng, okL_eng]⟩
    · obtain rfl : i = 16 := by omega
      simp only [↓VC, VP, TT, Nat.reduceEqDiff, reduceCtorEq, Nat.reduceAdd, Nat.reduceSub, Nat.reduceLT, Nat.reduceMul, Nat.reducePow, Nat.reduceLeDiff, Int.reduceToNat, Int.reduceLE, Int.reduceLT, Int.reducePow, (eq_false (by omega) : (((16 : Nat) : Int) < 16) = False), decide_false, fl_len, ↓eng_pl hE]
      rw [fl_done, show (tab 16 fun i => box.getD ((encS m box A pl key s n r).getD i 0).toNat 0) = boxL 16 box (encS m box A pl key s n r) from rfl]
      refine kCall_val (c_impl_move pl (boxL 16 box (encS m box A pl key s n r)) hE.p (boxL_len _ _ _) hpl) (by rfl) [] (by simp [CALL]) (by simp [CALL, cellsAt]) (by simp [CALL]) (by simp [okL_bs]) ?_
      have w1 : IntKind.i64.wrap (((n + 1 : Nat) : Int) - 1) = (n : Int) := by rw [wrap_i64 (by omega) (by omega)]; omega
      have e1 : ((r : Int) + 1) = ((r + 1 : Nat) : Int) := by omega
      have hx := keyN_len hk box (r + 1)
      have htl := boxL_len 16 box (encS m box A pl key s n r)
      simp only [CALL, ↓VC, VP, TT, Nat.reduceEqDiff, reduceCtorEq, Nat.reduceAdd, Nat.reduceSub, Nat.reduceLT, Nat.reduceMul, Nat.reducePow, Nat.reduceLeDiff, Int.reduceToNat, Int.reduceLE, Int.reduceLT, Int.reducePow, htl, moveL_len, w1, ↓eng_mixer hE]
      refine ⟨fun h3 => ?_, fun h3 => ?_⟩
      · refine kCall_M (c_mix m A (moveL pl (boxL 16 box (encS m box A pl key s n r))) 16 4 rfl (by omega) (moveL_len _ _)) (by rfl) [(1, 0), (4, 0)] (by simp [CALL]) (by simp [CALL, cellsAt, tabL_len]) (by simp) (by simp [CALL]) (by simp [okL_bs]) (by simp [keepR, mixL_len, moveL_len, bs_length]) (by simp) fun _ _ => ?_
        simp only [CALL, ↓VC, VP, TT, Nat.reduceEqDiff, reduceCtorEq, Nat.reduceAdd, Nat.reduceSub, Nat.reduceLT, Nat.reduceMul, Nat.reducePow, Nat.reduceLeDiff, Int.reduceToNat, Int.reduceLE, Int.reduceLT, Int.reducePow, mixL_len, e1, ↓keys_loadR hk (show r + 1 < n + 1 by omega)]
        refine ⟨by omega, ?_⟩
        refine kCall_val (c_impl_XorBlocks (mixL 16 m A (moveL pl (boxL 16 box (encS m box A pl key s n r)))) (keyN box key (r + 1)) (mixL_len _ _ _ _) hx) (by rfl) [] (by simp [CALL]) (by simp [CALL, cellsAt]) (by simp [CALL]) (by simp [okL_bs]) ?_
        simp only [CALL, ↓VC, VP, TT, Nat.reduceEqDiff, reduceCtorEq, Nat.reduceAdd, Nat.reduceSub, Nat.reduceLT, Nat.reduceMul, Nat.reducePow, Nat.reduceLeDiff, Int.reduceToNat, Int.reduceLE, Int.reduceLT, Int.reducePow, mixL_len, xorN_len]
        refine ⟨r + 1, by omega, by omega, [0, 1, 2, 3, 4, 5], ?_⟩
        rw [wrap_i64 (by omega) (by omega)]
        simp [-List.reduceReplicate, LES, renL_eng, okL_eng, encS, show r + 1 < n by omega]
      · simp only [↓VC, VP, TT, Nat.reduceEqDiff, reduceCtorEq, Nat.reduceAdd, Nat.reduceSub, Nat.reduceLT, Nat.reduceMul, Nat.reducePow, Nat.reduceLeDiff, Int.reduceToNat, Int.reduceLE, Int.reduceLT, Int.reducePow, moveL_len, e1, ↓keys_loadR hk (show r + 1 < n + 1 by omega)]
        refine ⟨by omega, ?_⟩
        refine kCall_val (c_impl_XorBlocks (moveL pl (boxL 16 box (encS m box A pl key s n r))) (keyN box key (r + 1)) (moveL_len _ _) hx) (by rfl) [] (by simp [CALL]) (by simp [CALL, cellsAt]) (by simp [CALL]) (by simp [okL_bs]) ?_
        simp only [CALL, ↓VC, VP, TT, Nat.reduceEqDiff, reduceCtorEq, Nat.reduceAdd, Nat.reduceSub, Nat.reduceLT, Nat.reduceMul, Nat.reducePow, Nat.reduceLeDiff, Int.reduceToNat, Int.reduceLE, Int.reduceLT, Int.reducePow, moveL_len, xorN_len]
        refine ⟨r + 1, by omega, by omega, [0, 1, 2, 3, 4, 5], ?_⟩
        rw [wrap_i64 (by omega) (by omega)]
        simp [-List.reduceReplicate, LES, renL_eng, okL_eng, encS, show ¬ r + 1 < n by omega]
  · obtain rfl : r = n := by omega
    simp only [↓VC, VP, TT, Nat.reduceEqDiff, reduceCtorEq, Nat.reduceAdd, Nat.reduceSub, Nat.reduceLT, Nat.reduceMul, Nat.reducePow, Nat.reduceLeDiff, Int.reduceToNat, Int.reduceLE, Int.reduceLT, Int.reducePow, (eq_false (by omega) : ((r : Int) + 1 < ((r + 1 : Nat) : Int)) = False), decide_false, hl]
    refine ⟨_, _, [0, 1, 2, 3], ⟨rfl, rfl⟩, ?_⟩
    simp [-List.reduceReplicate, LES, renL_eng, okL_eng, encL]
theorem c_encipher (m : Nat) (box bb pl bp A T2 key s : List UInt8) (n : Nat) (hn : n ≤ 40) (hE : EngL box bb pl bp) (hA : A.length = 16) (hpl : pl16 pl) (hk : key.length = 16) (hs : s.length = 16) :
    LC Tryz.prog 160 [.p 0 0, .a (bs key), .a (bs s)] [⟨false, engC box bb pl bp 1 2 n⟩, ⟨false, bs (tabL m A)⟩, ⟨false, bs T2⟩]
      (fun v hp => v = .a (bs (encL m box A pl key s n)) ∧ hp = [⟨false, engC box bb pl bp 1 2 n⟩, ⟨false, bs (tabL m A)⟩, ⟨false, bs T2⟩]) := by
  refine LC_of (X := XX (fun | 1 => .one 0 (.one 1 (.one 2 (.one 3 (.one 4 (.one 5 (.one 6 (.one 8 (.one 7 (.one 9 (.one 10 .nil)))))))))) | _ => .nil) (fun _ => []) [15, 71, 72, 73, 79, 80, 87, 90, 91, 93, 99, 119, 137, 176, 177, 203, 204, 212, 219] 3) envOK Tryz.func160 (by kernel_rfl) (by kernel_rfl) rfl (Nat.le_of_ble_eq_true (by kernel_rfl)) ?_
  simp only [kFun, Tryz.f160, List.length_nil, List.length_cons, Nat.sub_zero, Nat.reduceSub, Nat.reduceAdd, List.nil_append, List.cons_append, List.replicate_succ, List.replicate_zero]
  simp only [XX, ↓VC, VP, TT, Nat.reduceEqDiff, reduceCtorEq, Nat.reduceAdd, Nat.reduceSub, Nat.reduceLT, Nat.reduceMul, Nat.reducePow, Nat.reduceLeDiff, Int.reduceToNat, Int.reduceLE, Int.reduceLT, Int.reducePow, hk, hs, ↓eng_rd hE]
  refine kCall_Ret (c_impl_keys box bb pl bp (tabL m A) T2 key n n hn hE hk) (by rfl) [(0, 0), (1, 0), (2, 0)] (by simp [CALL]) (by simp [CALL, cellsAt, instL_eng]) (by simp [CALL]) (by simp [okL_bs, okL_eng]) (by simp) fun q _ => ?_
  simp only [CALL, ↓VC, VP, TT, Nat.reduceEqDiff, reduceCtorEq, Nat.reduceAdd, Nat.reduceSub, Nat.reduceLT, Nat.reduceMul, Nat.reducePow, Nat.reduceLeDiff, Int.reduceToNat, Int.reduceLE, Int.reduceLT, Int.reducePow, hs]
  refine kCall_val (c_encipherWith m box bb pl bp A T2 key s n n q hn hE hA hpl hk hs) (by rfl) [(0, 0), (1, 0), (2, 0), (6, 0)] (by simp [CALL]) (by simp [CALL, cellsAt, instL_eng, takeX]) (by simp [CALL]) (by simp [okL_bs, okL_eng, okL_app, okL_rep]) ?_
  simp only [CALL, ↓VC, VP, TT, Nat.reduceEqDiff, reduceCtorEq, Nat.reduceAdd, Nat.reduceSub, Nat.reduceLT, Nat.reduceMul, Nat.reducePow, Nat.reduceLeDiff, Int.reduceToNat, Int.reduceLE, Int.reduceLT, Int.reducePow, encL_len]
  refine ⟨_, _, [0, 1, 2], ⟨rfl, rfl⟩, ?_⟩
  simp [-List.reduceReplicate, LES, renL_eng, okL_eng]
end Go.Proofs.YtahnjhppkgndiaaGreat
