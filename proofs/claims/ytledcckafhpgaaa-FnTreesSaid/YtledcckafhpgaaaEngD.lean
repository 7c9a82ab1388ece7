import Derived.Test.YtledcckafhpgaaaEngB
/- The tables. -/
set_option linter.unusedSimpArgs false
set_option linter.unusedVariables false
namespace Go.Proofs.Ytledcckafhpgaaa
open Go Go.Vc
set_option maxRecDepth 10000
set_option maxHeartbeats 1000000
theorem or_tab : ∀ k, k < 8 → ∀ l, l < 128 → l < 2 ^ k → bitI .or .i64 ((2 ^ k : Nat) : Int) (l : Nat) = ((2 ^ k + l : Nat) : Int) ∧ UInt8.ofInt ((2 ^ k : Nat) : Int) ^^^ UInt8.ofInt ((l : Nat) : Int) = UInt8.ofInt ((2 ^ k + l : Nat) : Int) := by decide +kernel
theorem pow8 : ∀ k, k < 8 → 2 ^ k ≤ 128 := by decide
theorem row_get {A : List UInt8} {i j : Nat} (hj : j < 4) (hA : A.length = 16) (hi : i < 4) : ((A.drop (i * 4)).take 4).getD j 0 = A.getD (i * 4 + j) 0 := by
  simp [List.getD, List.getElem?_take, hj]
theorem c_newMixer (m : Nat) (A : List UInt8) (hm : 256 ≤ m) (hm' : m < 512) (hA : A.length = 16) : LC Try.prog 60 [.c (.int .i64 (m)), .a (bs A)] [] (Ret [] (fun _ : Unit => True) fun _ => (.p 0 0, [⟨true, bs (tabL m A)⟩])) := by
  refine LC_of (X := XX (fun | 15 => .one 0 (.one 1 (.one 2 (.one 3 (.one 4 (.one 5 (.one 6 (.one 7 (.one 8 (.one 9 (.one 10 (.one 11 (.one 12 (.one 13 (.one 14 (.one 15 (.one 16 (.one 17 (.one 18 (.one 19 (.one 20 (.one 21 .nil))))))))))))))))))))) | _ => .nil) (fun _ => []) [22, 24, 25, 36, 42, 47, 90] 0) envOK Try.func60 (by kernel_rfl) (by kernel_rfl) rfl (Nat.le_of_ble_eq_true (by kernel_rfl)) ?_
  simp only [kFun, Try.f60, List.length_nil, List.length_cons, Nat.sub_zero, Nat.reduceSub, Nat.reduceAdd, List.nil_append, List.cons_append, List.replicate_succ, List.replicate_zero]
  simp only [XX, ↓VC, VP, TT, List.getElem?_toArray, Nat.reduceEqDiff, reduceCtorEq, Nat.reduceAdd, Nat.reduceSub, Nat.reduceLT, Nat.reduceMul, Nat.reducePow, Nat.reduceLeDiff, Int.reduceToNat, Int.reduceLE, Int.reduceLT, Int.reducePow, hA]
  refine kLoop_of (fun i : Nat => ([.c (.int .i64 (m)), .j, .j, .p 0 0, .j, .p 1 0, .j, .j, .j, .j, .j, .j, .j, .j, .c (.int .i64 (i)), .j, .j, .j, .j, .j, .j, .j, .j, .j, .j, .j, .j, .j, .j, .j, .j, .j, .j, .j, .j, .j, .j, .j, .j, .j, .j, .j, .j, .j, .j, .j, .j, .j, .j, .j, .j, .j, .j, .j, .j, .j, .j, .j, .j, .j, .j, .j], [⟨true, bs A⟩, ⟨true, bs (fl 4096 (fun _ => 0) (tabB m A) (1024 * i))⟩])) (fun i => 4 - i) (fun i => i ≤ 4) 0 (by omega)
    ⟨[0, 1], by rw [Nat.mul_zero, ← fl_zero]; simp [-List.reduceReplicate, LES]⟩ ?_
  intro i hi
  rcases Nat.lt_or_ge i 4 with h | h
  · simp only [↓VC, VP, TT, List.getElem?_toArray, Nat.reduceEqDiff, reduceCtorEq, Nat.reduceAdd, Nat.reduceSub, Nat.reduceLT, Nat.reduceMul, Nat.reducePow, Nat.reduceLeDiff, Int.reduceToNat, Int.reduceLE, Int.reduceLT, Int.reducePow, hA, h, (eq_true (by omega) : ((i : Int) < 4) = True), (eq_true (by omega) : ((i : Int) < ((4 : Nat) : Int)) = True), wrap_i64 (n := (i : Int) + 1) (by omega) (by omega), decide_true, (eq_true (by omega) : (i * 4 + 4 ≤ 16) = True)]
    refine kLoop_of (fun j : Nat => ([.c (.int .i64 (m)), .j, .j, .p 0 0, .j, .p 1 0, .c (.int .i64 (i)), .j, .j, .j, .j, .j, .j, .j, .c (.int .i64 (i)), .j, .j, .j, .j, .a (bs ((A.drop (i * 4)).take 4)), .c (.int .i64 (j)), .j, .j, .j, .j, .j, .j, .j, .j, .j, .j, .j, .j, .j, .j, .j, .j, .j, .j, .j, .j, .j, .j, .j, .j, .j, .j, .j, .j, .j, .j, .j, .j, .j, .j, .j, .j, .j, .j, .j, .j, .j], [⟨true, bs A⟩, ⟨true, bs (fl 4096 (fun _ => 0) (tabB m A) (1024 * i + 256 * j))⟩])) (fun j => 4 - j) (fun j => j ≤ 4) 0 (by omega)
      ⟨[0, 1], by simp [-List.reduceReplicate, LES]⟩ ?_
    intro j hj
    rcases Nat.lt_or_ge j 4 with h2 | h2
    · have hrl : ((A.drop (i * 4)).take 4).length = 4 := by rw [List.length_take, List.length_drop]; omega
      simp only [↓VC, VP, TT, List.getElem?_toArray, Nat.reduceEqDiff, reduceCtorEq, Nat.reduceAdd, Nat.reduceSub, Nat.reduceLT, Nat.reduceMul, Nat.reducePow, Nat.reduceLeDiff, Int.reduceToNat, Int.reduceLE, Int.reduceLT, Int.reducePow, hrl, h2, (eq_true (by omega) : ((j : Int) < 4) = True), (eq_true (by omega) : ((j : Int) < ((4 : Nat) : Int)) = True), wrap_i64 (n := (j : Int) + 1) (by omega) (by omega), decide_true, row_get h2 hA h]
      refine kLoop_of (fun k : Nat => ([.c (.int .i64 (m)), .j, .j, .p 0 0, .j, .p 1 0, .c (.int .i64 (i)), .c (.int .i64 (j)), .c (.int .u8 ((A.getD (i * 4 + j) 0).toNat : Int)), .c (.int .i64 ((2 ^ k : Nat))), .j, .j, .j, .j, .c (.int .i64 (i)), .j, .j, .j, .j, .a (bs ((A.drop (i * 4)).take 4)), .c (.int .i64 (j)), .j, .j, .j, .j, .j, .j, .j, .j, .j, .j, .j, .j, .j, .j, .j, .j, .j, .j, .j, .j, .j, .j, .j, .j, .j, .j, .j, .j, .j, .j, .j, .j, .j, .j, .j, .j, .j, .j, .j, .j, .j], [⟨true, bs A⟩, ⟨true, bs (fl 4096 (fun _ => 0) (tabB m A) (1024 * i + 256 * j + 2 ^ k))⟩])) (fun k => 8 - k) (fun k => k ≤ 8) 0 (by omega)
        ⟨[0, 1], by
          have e : fl 4096 (fun _ => 0) (tabB m A) (1024 * i + 256 * j + 2 ^ 0) = fl 4096 (fun _ => 0) (tabB m A) (1024 * i + 256 * j) := by
            have h0 : tabB m A (1024 * i + 256 * j) = 0 := by
              unfold tabB; rw [show (1024 * i + 256 * j) % 256 = 0 by omega]; exact tmul_zero' _ _
            have h1 := fl_set (n := 4096) (f0 := fun _ => 0) (g := tabB m A) (i := 1024 * i + 256 * j) (v := 0) (by omega) h0.symm
            have h2 := fl_set_same (n := 4096) (f0 := fun _ => 0) (g := tabB m A) (i := 1024 * i + 256 * j) (by omega)
            rw [show 2 ^ 0 = 1 from rfl, ← h1]; exact h2
          rw [e]; simp [-List.reduceReplicate, LES]⟩ ?_
      intro k hk
      rcases Nat.lt_or_ge k 8 with h3 | h3
      · have hp := pow8 k h3
        have hp0 : 0 < 2 ^ k := Nat.two_pow_pos k
        have hconv : IntKind.u8.wrap (((2 ^ k : Nat) : Int)) = (((UInt8.ofInt ((2 ^ k : Nat) : Int)).toNat : Nat) : Int) := wrap_u8 _
        simp only [↓VC, VP, TT, List.getElem?_toArray, Nat.reduceEqDiff, reduceCtorEq, Nat.reduceAdd, Nat.reduceSub, Nat.reduceLT, Nat.reduceMul, Nat.reducePow, Nat.reduceLeDiff, Int.reduceToNat, Int.reduceLE, Int.reduceLT, Int.reducePow, (eq_true (by omega) : (((2 ^ k : Nat) : Int) < 256) = True), decide_true, hconv]
        refine kCall_val (c_impl_times m (A.getD (i * 4 + j) 0) (UInt8.ofInt ((2 ^ k : Nat) : Int)) hm hm') (by rfl) [] (by simp [CALL]) (by simp [CALL, cellsAt]) (by simp [CALL]) (by simp [okL_bs]) ?_
        simp only [CALL, ↓VC, VP, TT, List.getElem?_toArray, Nat.reduceEqDiff, reduceCtorEq, Nat.reduceAdd, Nat.reduceSub, Nat.reduceLT, Nat.reduceMul, Nat.reducePow, Nat.reduceLeDiff, Int.reduceToNat, Int.reduceLE, Int.reduceLT, Int.reducePow]
        refine kLoop_of (fun l : Nat => ([.c (.int .i64 (m)), .j, .j, .p 0 0, .j, .p 1 0, .c (.int .i64 (i)), .c (.int .i64 (j)), .c (.int .u8 ((A.getD (i * 4 + j) 0).toNat : Int)), .c (.int .i64 ((2 ^ k : Nat))), .c (.int .u8 ((tmul m (A.getD (i * 4 + j) 0) (UInt8.ofInt ((2 ^ k : Nat) : Int))).toNat : Int)), .j, .j, .j, .c (.int .i64 (i)), .j, .j, .j, .j, .a (bs ((A.drop (i * 4)).take 4)), .c (.int .i64 (j)), .j, .j, .j, .j, .j, .j, .j, .j, .j, .j, .j, .j, .c (.int .i64 ((2 ^ k : Nat))), .c (.int .i64 (l)), .j, .j, .j, .j, .j, .j, .j, .j, .j, .j, .j, .j, .j, .j, .j, .j, .j, .j, .j, .j, .j, .j, .j, .j, .j, .j, .j], [⟨true, bs A⟩, ⟨true, bs (fl 4096 (fun _ => 0) (tabB m A) (1024 * i + 256 * j + 2 ^ k + l))⟩])) (fun l => 2 ^ k - l) (fun l => l ≤ 2 ^ k) 0 (by omega)
          ⟨[0, 1], by simp [-List.reduceReplicate, LES]⟩ ?_
        intro l hl
        rcases Nat.lt_or_ge l (2 ^ k) with h4 | h4
        · obtain ⟨o1, o2⟩ := or_tab k h3 l (by omega) h4
          have e1 : (fl 4096 (fun _ => 0) (tabB m A) (1024 * i + 256 * j + 2 ^ k + l)).getD (i * 1024 + j * 256 + l) 0 = tabB m A (1024 * i + 256 * j + l) := by
            rw [fl_get (by omega), if_pos (by omega), show i * 1024 + j * 256 + l = 1024 * i + 256 * j + l by omega]
          have e2 : tmul m (A.getD (i * 4 + j) 0) (UInt8.ofInt ((2 ^ k : Nat) : Int)) ^^^ tabB m A (1024 * i + 256 * j + l) = tabB m A (1024 * i + 256 * j + 2 ^ k + l) := by
            unfold tabB
            rw [show (1024 * i + 256 * j + l) / 256 = i * 4 + j by omega, show (1024 * i + 256 * j + l) % 256 = l by omega, show (1024 * i + 256 * j + 2 ^ k + l) / 256 = i * 4 + j by omega,
              show (1024 * i + 256 * j + 2 ^ k + l) % 256 = 2 ^ k + l by omega, ← tmul_xor, o2]
          simp only [↓VC, VP, TT, List.getElem?_toArray, Nat.reduceEqDiff, reduceCtorEq, Nat.reduceAdd, Nat.reduceSub, Nat.reduceLT, Nat.reduceMul, Nat.reducePow, Nat.reduceLeDiff, Int.reduceToNat, Int.reduceLE, Int.reduceLT, Int.reducePow, fl_len, o1, e1, e2, (eq_true (by omega) : ((l : Int) < ((2 ^ k : Nat) : Int)) = True), decide_true, h, h2, (eq_true (by omega) : ((i : Int) < ((4 : Nat) : Int)) = True), (eq_true (by omega) : ((j : Int) < ((4 : Nat) : Int)) = True),
            (eq_true (by omega) : ((l : Int) < ((256 : Nat) : Int)) = True), (eq_true (by omega) : (((2 ^ k + l : Nat) : Int) < ((256 : Nat) : Int)) = True), (eq_true (by omega) : (i * 1024 + j * 256 + l < 4096) = True), (eq_true (by omega) : (i * 1024 + j * 256 + (2 ^ k + l) < 4096) = True),
            wrap_i64 (n := (l : Int) + 1) (by omega) (by omega)]
          refine ⟨l + 1, by omega, by omega, [0, 1], ?_⟩
          rw [show i * 1024 + j * 256 + (2 ^ k + l) = 1024 * i + 256 * j + 2 ^ k + l by omega, fl_set (by omega) rfl]
          simp [-List.reduceReplicate, LES]; exact .inr rfl
        · obtain rfl : l = 2 ^ k := by omega
          have w2 : IntKind.i64.wrap (((2 ^ k : Nat) : Int) * 2) = ((2 ^ (k + 1) : Nat) : Int) := by rw [wrap_i64 (by omega) (by omega), Nat.pow_succ]; omega
          simp only [↓VC, VP, TT, List.getElem?_toArray, Nat.reduceEqDiff, reduceCtorEq, Nat.reduceAdd, Nat.reduceSub, Nat.reduceLT, Nat.reduceMul, Nat.reducePow, Nat.reduceLeDiff, Int.reduceToNat, Int.reduceLE, Int.reduceLT, Int.reducePow, (eq_false (by omega) : (((2 ^ k : Nat) : Int) < ((2 ^ k : Nat) : Int)) = False), decide_false, w2]
          refine ⟨k + 1, by omega, by omega, [0, 1], ?_⟩
          rw [show 1024 * i + 256 * j + 2 ^ k + 2 ^ k = 1024 * i + 256 * j + 2 ^ (k + 1) by rw [Nat.pow_succ]; omega]
          simp [-List.reduceReplicate, LES]
      · obtain rfl : k = 8 := by omega
        simp only [↓VC, VP, TT, List.getElem?_toArray, Nat.reduceEqDiff, reduceCtorEq, Nat.reduceAdd, Nat.reduceSub, Nat.reduceLT, Nat.reduceMul, Nat.reducePow, Nat.reduceLeDiff, Int.reduceToNat, Int.reduceLE, Int.reduceLT, Int.reducePow, (eq_false (by decide) : (((2 ^ 8 : Nat) : Int) < 256) = False), decide_false, wrap_i64 (n := (j : Int) + 1) (by omega) (by omega)]
        refine ⟨j + 1, by omega, by omega, [0, 1], ?_⟩
        rw [show 1024 * i + 256 * j + 2 ^ 8 = 1024 * i + 256 * (j + 1) by omega]
        simp [-List.reduceReplicate, LES]
    · obtain rfl : j = 4 := by omega
      simp only [↓VC, VP, TT, List.getElem?_toArray, Nat.reduceEqDiff, reduceCtorEq, Nat.reduceAdd, Nat.reduceSub, Nat.reduceLT, Nat.reduceMul, Nat.reducePow, Nat.reduceLeDiff, Int.reduceToNat, Int.reduceLE, Int.reduceLT, Int.reducePow, (eq_false (by omega) : (((4 : Nat) : Int) < 4) = False), decide_false, wrap_i64 (n := (i : Int) + 1) (by omega) (by omega)]
      refine ⟨i + 1, by omega, by omega, [0, 1], ?_⟩
      rw [show 1024 * i + 256 * 4 = 1024 * (i + 1) by omega]
      simp [-List.reduceReplicate, LES]
  · obtain rfl : i = 4 := by omega
    simp only [↓VC, VP, TT, List.getElem?_toArray, Nat.reduceEqDiff, reduceCtorEq, Nat.reduceAdd, Nat.reduceSub, Nat.reduceLT, Nat.reduceMul, Nat.reducePow, Nat.reduceLeDiff, Int.reduceToNat, Int.reduceLE, Int.reduceLT, Int.reducePow, (eq_false (by omega) : (((4 : Nat) : Int) < 4) = False), decide_false]
    rw [fl_done]
    refine ⟨_, _, [1], ⟨(), trivial, rfl, rfl⟩, ?_⟩
    simp [-List.reduceReplicate, LES, tabL]
end Go.Proofs.Ytledcckafhpgaaa
