import Derived.Test.YtledcckafhpgaaaEngM
import Derived.Test.YtledcckafhpgaaaFieldC
/- Mixing: the reference multiplies, the program looks up its tables; the tables. -/
set_option linter.unusedSimpArgs false
set_option linter.unusedVariables false
namespace Go.Proofs.Ytledcckafhpgaaa
open Go Go.Vc
set_option maxRecDepth 10000
theorem mixB_succ {m : Nat} {A s : List UInt8} {c i : Nat} (hi : i < 4) (j : Nat) : mixB m A s (4 * c + i) (j + 1) = mixB m A s (4 * c + i) j ^^^ tmul m (A.getD (i * 4 + j) 0) (s.getD (4 * c + j) 0) := by
  rw [mixB, show (4 * c + i) % 4 = i by omega, show (4 * c + i) / 4 = c by omega]
theorem set_getD {l : List UInt8} {i : Nat} (h : i < l.length) (v : UInt8) : (l.set i v).getD i 0 = v := by simp [List.getD, h]
theorem fl_set_same {n : Nat} {f0 g : Nat → UInt8} {i : Nat} (h : i < n) : (fl n f0 g i).set i (f0 i) = fl n f0 g i := by
  apply List.ext_getElem?
  intro j
  rw [List.getElem?_set]
  by_cases hj : i = j
  · subst hj; rw [if_pos rfl, fl_len, if_pos h, getD_lt (by rw [fl_len]; exact h), fl_at h]
  · rw [if_neg hj]
theorem c_spec_l03Mix (m : Nat) (A s : List UInt8) (hm : 256 ≤ m) (hm' : m < 512) (hA : A.length = 16) (hs : s.length = 16) : LC Try.prog 95 [.c (.int .i64 (m)), .a (bs A), .a (bs s)] [] (fun v hp => v = .a (bs (mixL 16 m A s)) ∧ hp = []) := by
  refine LC_of (X := XX (fun | 11 => .one 0 (.one 1 (.one 2 (.one 3 (.one 4 (.one 5 (.one 6 (.one 7 (.one 8 (.one 9 (.one 10 (.one 11 (.one 12 (.one 13 (.one 14 (.one 15 (.one 16 (.one 17 (.one 18 (.one 19 (.one 20 (.one 21 (.one 22 (.one 23 (.one 24 (.one 25 .nil))))))))))))))))))))))))) | _ => .nil) (fun _ => []) [22, 24, 25, 36, 42, 47, 90] 0) envOK Try.func95 (by kernel_rfl) (by kernel_rfl) rfl (Nat.le_of_ble_eq_true (by kernel_rfl)) ?_
  simp only [kFun, Try.f95, List.length_nil, List.length_cons, Nat.sub_zero, Nat.reduceSub, Nat.reduceAdd, List.nil_append, List.cons_append, List.replicate_succ, List.replicate_zero]
  simp only [XX, ↓VC, VP, TT, List.getElem?_toArray, Nat.reduceEqDiff, reduceCtorEq, Nat.reduceAdd, Nat.reduceSub, Nat.reduceLT, Nat.reduceMul, Nat.reducePow, Nat.reduceLeDiff, Int.reduceToNat, Int.reduceLE, Int.reduceLT, Int.reducePow, hA, hs]
  refine kLoop_of (fun c : Nat => ([.c (.int .i64 (m)), .j, .j, .j, .p 0 0, .p 1 0, .p 2 0, .p 3 0, .c (.int .i64 (c)), .j, .j, .j, .j, .j, .j, .j, .j, .j, .j, .j, .j, .j, .j, .j, .j, .j, .j, .j, .j, .j, .j, .j, .j, .j, .j, .j, .j, .j, .j, .j, .j, .j, .j, .j, .j, .j, .j, .j, .j, .j], [⟨true, bs A⟩, ⟨true, bs s⟩, ⟨true, bs (List.replicate 16 0)⟩, ⟨true, bs (fl 16 (fun _ => 0) (fun x => mixB m A s x 4) (4 * c))⟩])) (fun c => 4 - c) (fun c => c ≤ 4) 0 (by omega)
    ⟨[0, 1, 2, 3], by rw [← fl_zero]; simp [-List.reduceReplicate, LES]⟩ ?_
  intro c hc
  rcases Nat.lt_or_ge c 4 with h | h
  · simp only [↓VC, VP, TT, List.getElem?_toArray, Nat.reduceEqDiff, reduceCtorEq, Nat.reduceAdd, Nat.reduceSub, Nat.reduceLT, Nat.reduceMul, Nat.reducePow, Nat.reduceLeDiff, Int.reduceToNat, Int.reduceLE, Int.reduceLT, Int.reducePow, h, (eq_true (by omega) : ((c : Int) < 4) = True), (eq_true (by omega) : ((c : Int) < ((4 : Nat) : Int)) = True), wrap_i64 (n := (c : Int) + 1) (by omega) (by omega), decide_true]
    refine kLoop_of (fun i : Nat => ([.c (.int .i64 (m)), .j, .j, .j, .p 0 0, .p 1 0, .p 2 0, .p 3 0, .c (.int .i64 (c)), .c (.int .i64 (i)), .j, .j, .j, .j, .j, .j, .j, .j, .j, .j, .j, .j, .j, .j, .j, .j, .j, .j, .j, .j, .j, .j, .j, .j, .j, .j, .j, .j, .j, .j, .j, .j, .j, .j, .j, .j, .j, .j, .j, .j], [⟨true, bs A⟩, ⟨true, bs s⟩, ⟨true, bs (List.replicate 16 0)⟩, ⟨true, bs (fl 16 (fun _ => 0) (fun x => mixB m A s x 4) (4 * c + i))⟩])) (fun i => 4 - i) (fun i => i ≤ 4) 0 (by omega)
      ⟨[0, 1, 2, 3], by simp [-List.reduceReplicate, LES]⟩ ?_
    intro i hi
    rcases Nat.lt_or_ge i 4 with h2 | h2
    · simp only [↓VC, VP, TT, List.getElem?_toArray, Nat.reduceEqDiff, reduceCtorEq, Nat.reduceAdd, Nat.reduceSub, Nat.reduceLT, Nat.reduceMul, Nat.reducePow, Nat.reduceLeDiff, Int.reduceToNat, Int.reduceLE, Int.reduceLT, Int.reducePow, h2, (eq_true (by omega) : ((i : Int) < 4) = True), (eq_true (by omega) : ((i : Int) < ((4 : Nat) : Int)) = True), wrap_i64 (n := (i : Int) + 1) (by omega) (by omega), decide_true]
      refine kLoop_of (fun j : Nat => ([.c (.int .i64 (m)), .j, .j, .j, .p 0 0, .p 1 0, .p 2 0, .p 3 0, .c (.int .i64 (c)), .c (.int .i64 (i)), .c (.int .i64 (j)), .j, .j, .j, .j, .j, .j, .j, .j, .j, .j, .j, .j, .j, .j, .j, .j, .j, .j, .j, .j, .j, .j, .j, .j, .j, .j, .j, .j, .j, .j, .j, .j, .j, .j, .j, .j, .j, .j, .j], [⟨true, bs A⟩, ⟨true, bs s⟩, ⟨true, bs (List.replicate 16 0)⟩, ⟨true, bs ((fl 16 (fun _ => 0) (fun x => mixB m A s x 4) (4 * c + i)).set (4 * c + i) (mixB m A s (4 * c + i) j))⟩])) (fun j => 4 - j) (fun j => j ≤ 4) 0 (by omega)
        ⟨[0, 1, 2, 3], by have := fl_set_same (n := 16) (f0 := fun _ => 0) (g := fun x => mixB m A s x 4) (i := 4 * c + i) (by omega); rw [show mixB m A s (4 * c + i) 0 = 0 from rfl, this]; simp [-List.reduceReplicate, LES]⟩ ?_
      intro j hj
      rcases Nat.lt_or_ge j 4 with h3 | h3
      · have w1 : IntKind.i64.wrap (4 * (c : Int)) = ((4 * c : Nat) : Int) := by rw [wrap_i64 (by omega) (by omega)]; omega
        have w2 : IntKind.i64.wrap (((4 * c : Nat) : Int) + i) = ((4 * c + i : Nat) : Int) := by rw [wrap_i64 (by omega) (by omega)]; omega
        have w3 : IntKind.i64.wrap (((4 * c : Nat) : Int) + j) = ((4 * c + j : Nat) : Int) := by rw [wrap_i64 (by omega) (by omega)]; omega
        have g1 := set_getD (l := fl 16 (fun _ => 0) (fun x => mixB m A s x 4) (4 * c + i)) (i := 4 * c + i) (by rw [fl_len]; omega) (mixB m A s (4 * c + i) j)
        simp only [↓VC, VP, TT, List.getElem?_toArray, Nat.reduceEqDiff, reduceCtorEq, Nat.reduceAdd, Nat.reduceSub, Nat.reduceLT, Nat.reduceMul, Nat.reducePow, Nat.reduceLeDiff, Int.reduceToNat, Int.reduceLE, Int.reduceLT, Int.reducePow, h3, (eq_true (by omega) : ((j : Int) < 4) = True), (eq_true (by omega) : ((j : Int) < ((4 : Nat) : Int)) = True), wrap_i64 (n := (j : Int) + 1) (by omega) (by omega), decide_true, w1, w2, w3, fl_len, hA, hs, h2, (eq_true (by omega) : ((i : Int) < ((4 : Nat) : Int)) = True), (eq_true (by omega) : (((4 * c + i : Nat) : Int) < ((16 : Nat) : Int)) = True), (eq_true (by omega) : (((4 * c + j : Nat) : Int) < ((16 : Nat) : Int)) = True), (eq_true (by omega) : (4 * c + i < 16) = True), (eq_true (by omega) : (4 * c + j < 16) = True), (eq_true (by omega) : (i * 4 + j < 16) = True)]
        refine kCall_val (c_spec_l01Times m (A.getD (i * 4 + j) 0) (s.getD (4 * c + j) 0) hm hm') (by rfl) [] (by simp [CALL]) (by simp [CALL, cellsAt]) (by simp [CALL]) (by simp [okL_bs]) ?_
        simp only [CALL, ↓VC, VP, TT, List.getElem?_toArray, Nat.reduceEqDiff, reduceCtorEq, Nat.reduceAdd, Nat.reduceSub, Nat.reduceLT, Nat.reduceMul, Nat.reducePow, Nat.reduceLeDiff, Int.reduceToNat, Int.reduceLE, Int.reduceLT, Int.reducePow, fl_len, (eq_true (by omega) : (((4 * c + i : Nat) : Int) < ((16 : Nat) : Int)) = True), (eq_true (by omega) : (4 * c + i < 16) = True)]
        refine ⟨j + 1, by omega, by omega, [0, 1, 2, 3], ?_⟩
        rw [g1, List.set_set, ← mixB_succ h2, wrap_i64 (by omega) (by omega)]
        simp [-List.reduceReplicate, LES]
      · obtain rfl : j = 4 := by omega
        simp only [↓VC, VP, TT, List.getElem?_toArray, Nat.reduceEqDiff, reduceCtorEq, Nat.reduceAdd, Nat.reduceSub, Nat.reduceLT, Nat.reduceMul, Nat.reducePow, Nat.reduceLeDiff, Int.reduceToNat, Int.reduceLE, Int.reduceLT, Int.reducePow, (eq_false (by omega) : (((4 : Nat) : Int) < 4) = False), decide_false, wrap_i64 (n := (i : Int) + 1) (by omega) (by omega)]
        refine ⟨i + 1, by omega, by omega, [0, 1, 2, 3], ?_⟩
        rw [fl_set (by omega) rfl]
        simp [-List.reduceReplicate, LES]; exact .inr rfl
    · obtain rfl : i = 4 := by omega
      simp only [↓VC, VP, TT, List.getElem?_toArray, Nat.reduceEqDiff, reduceCtorEq, Nat.reduceAdd, Nat.reduceSub, Nat.reduceLT, Nat.reduceMul, Nat.reducePow, Nat.reduceLeDiff, Int.reduceToNat, Int.reduceLE, Int.reduceLT, Int.reducePow, (eq_false (by omega) : (((4 : Nat) : Int) < 4) = False), decide_false, wrap_i64 (n := (c : Int) + 1) (by omega) (by omega)]
      exact ⟨c + 1, by omega, by omega, [0, 1, 2, 3], by simp [-List.reduceReplicate, LES]; exact .inr rfl⟩
  · obtain rfl : c = 4 := by omega
    simp only [↓VC, VP, TT, List.getElem?_toArray, Nat.reduceEqDiff, reduceCtorEq, Nat.reduceAdd, Nat.reduceSub, Nat.reduceLT, Nat.reduceMul, Nat.reducePow, Nat.reduceLeDiff, Int.reduceToNat, Int.reduceLE, Int.reduceLT, Int.reducePow, fl_len, (eq_false (by omega) : (((4 : Nat) : Int) < 4) = False), decide_false]
    rw [fl_done]; refine ⟨_, _, [], ⟨rfl, rfl⟩, ?_⟩; simp [-List.reduceReplicate, LES, mixL]
end Go.Proofs.Ytledcckafhpgaaa
