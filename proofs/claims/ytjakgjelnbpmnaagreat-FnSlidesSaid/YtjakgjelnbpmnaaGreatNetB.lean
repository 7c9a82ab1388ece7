import Derived.Test.YtjakgjelnbpmnaaGreatNetM
import Derived.Test.YtjakgjelnbpmnaaGreatCiphIs
import Derived.Test.YtjakgjelnbpmnaaGreatSldX
import Derived.Test.YtjakgjelnbpmnaaGreatEngE
import Derived.Test.YtjakgjelnbpmnaaGreatFieldM
import Derived.Test.YtjakgjelnbpmnaaGreatListsM
/- Networks: the reference's rounds. -/
set_option linter.unusedSimpArgs false
set_option linter.unusedVariables false
namespace Go.Proofs.YtjakgjelnbpmnaaGreat
open Go Go.Vc
set_option maxRecDepth 10000
set_option maxHeartbeats 4000000
theorem lo8 {b : List UInt8} (h : b.length = 16) : tab 8 (fun i => b.getD i 0) = b.take 8 := by
  refine ext_getD (tab_len _ _) (by rw [List.length_take]; omega) fun i hi => ?_
  rw [map_getD hi]
  simp only [List.getD_eq_getElem?_getD, List.getElem?_take, if_pos hi]
theorem hi8 {b : List UInt8} (h : b.length = 16) : tab 8 (fun i => b.getD (8 + i) 0) = b.drop 8 := by
  refine ext_getD (tab_len _ _) (by rw [List.length_drop]; omega) fun i hi => ?_
  rw [map_getD hi]
  simp only [List.getD_eq_getElem?_getD, List.getElem?_drop]
theorem take8_len {b : List UInt8} (h : b.length = 16) : (b.take 8).length = 8 := by rw [List.length_take]; omega
theorem drop8_len {b : List UInt8} (h : b.length = 16) : (b.drop 8).length = 8 := by rw [List.length_drop]; omega
theorem c_spec_l06Halves (b : List UInt8) (hb : b.length = 16) : LC Tryz.prog 46 [.a (bs b)] [] (fun v hp => v = .t [.a (bs (b.take 8)), .a (bs (b.drop 8))] ∧ hp = []) := by
  refine LC_of (X := XX (fun | 7 => .one 0 (.alt (.one 1 (.one 2 (.one 3 .nil))) (.one 2 (.one 1 (.one 3 .nil)))) | _ => .nil) (fun _ => []) [33, 34, 35, 36, 39, 45, 53, 54, 65, 75, 90, 91, 92, 104] 0) envOK Tryz.func46 (by kernel_rfl) (by kernel_rfl) rfl (Nat.le_of_ble_eq_true (by kernel_rfl)) ?_
  simp only [kFun, Tryz.f46, List.length_nil, List.length_cons, Nat.sub_zero, Nat.reduceSub, Nat.reduceAdd, List.nil_append, List.cons_append, List.replicate_succ, List.replicate_zero]
  simp only [XX, ↓VC, VP, TT, Nat.reduceEqDiff, reduceCtorEq, Nat.reduceAdd, Nat.reduceSub, Nat.reduceLT, Nat.reduceMul, Nat.reducePow, Nat.reduceLeDiff, Int.reduceToNat, Int.reduceLE, Int.reduceLT, Int.reducePow, hb]
  refine kLoop_of (fun i : Nat => ([.j, .p 0 0, .p 1 0, .p 2 0, .p 3 0, .p 4 0, .c (.int .i64 (i)), .j, .j, .j, .j, .j, .j, .j, .j, .j, .j, .j, .j, .j, .j, .j, .j, .j, .j, .j], [⟨true, bs b⟩, ⟨true, bs (List.replicate 8 0)⟩, ⟨true, bs (List.replicate 8 0)⟩, ⟨true, bs (fl 8 (fun _ => 0) (fun i => b.getD i 0) i)⟩, ⟨true, bs (fl 8 (fun _ => 0) (fun i => b.getD (8 + i) 0) i)⟩])) (fun i => 8 - i) (fun i => i ≤ 8) 0 (by omega)
    ⟨[0, 1, 2, 3, 4], by rw [← fl_zero, ← fl_zero]; simp [-List.reduceReplicate, LES]⟩ ?_
  intro i hi
  rcases Nat.lt_or_ge i 8 with h | h
  · have w1 : IntKind.i64.wrap (8 + (i : Int)) = ((8 + i : Nat) : Int) := by rw [wrap_i64 (by omega) (by omega)]; omega
    simp only [↓VC, VP, TT, Nat.reduceEqDiff, reduceCtorEq, Nat.reduceAdd, Nat.reduceSub, Nat.reduceLT, Nat.reduceMul, Nat.reducePow, Nat.reduceLeDiff, Int.reduceToNat, Int.reduceLE, Int.reduceLT, Int.reducePow, hb, fl_len, fl_set, h, (eq_true (by omega) : ((i : Int) < 8) = True), (eq_true (by omega) : ((i : Int) < ((8 : Nat) : Int)) = True), wrap_i64 (n := (i : Int) + 1) (by omega) (by omega), decide_true, w1, (eq_true (by omega) : ((i : Int) < ((16 : Nat) : Int)) = True), (eq_true (by omega) : (((8 + i : Nat) : Int) < ((16 : Nat) : Int)) = True), (eq_true (by omega) : (i < 16) = True), (eq_true (by omega) : (8 + i < 16) = True)]
    exact ⟨i + 1, by omega, by omega, [0, 1, 2, 3, 4], by simp [-List.reduceReplicate, LES]⟩
  · obtain rfl : i = 8 := by omega
    simp only [↓VC, VP, TT, Nat.reduceEqDiff, reduceCtorEq, Nat.reduceAdd, Nat.reduceSub, Nat.reduceLT, Nat.reduceMul, Nat.reducePow, Nat.reduceLeDiff, Int.reduceToNat, Int.reduceLE, Int.reduceLT, Int.reducePow, fl_len, (eq_false (by omega) : (((8 : Nat) : Int) < 8) = False), decide_false, and_self]
    rw [fl_done, fl_done, lo8 hb, hi8 hb]
    refine ⟨_, _, [], ⟨rfl, rfl⟩, ?_⟩
    simp [-List.reduceReplicate, LES] <;> rfl
theorem rep16_8 : List.replicate 16 (0 : UInt8) = List.replicate 8 0 ++ List.replicate 8 0 := by decide
theorem c_spec_l06Join (a b : List UInt8) (ha : a.length = 8) (hb : b.length = 8) : LC Tryz.prog 47 [.a (bs a), .a (bs b)] [] (fun v hp => v = .a (bs (a ++ b)) ∧ hp = []) := by
  refine LC_of (X := XX (fun _ => .nil) (fun _ => []) [33, 34, 35, 36, 39, 45, 53, 54, 65, 75, 90, 91, 92, 104] 0) envOK Tryz.func47 (by kernel_rfl) (by kernel_rfl) rfl (Nat.le_of_ble_eq_true (by kernel_rfl)) ?_
  simp only [kFun, Tryz.f47, List.length_nil, List.length_cons, Nat.sub_zero, Nat.reduceSub, Nat.reduceAdd, List.nil_append, List.cons_append, List.replicate_succ, List.replicate_zero]
  simp only [XX, ↓VC, VP, TT, Nat.reduceEqDiff, reduceCtorEq, Nat.reduceAdd, Nat.reduceSub, Nat.reduceLT, Nat.reduceMul, Nat.reducePow, Nat.reduceLeDiff, Int.reduceToNat, Int.reduceLE, Int.reduceLT, Int.reducePow, ha, hb]
  refine kLoop_of (fun i : Nat => ([.j, .j, .p 0 0, .p 1 0, .p 2 0, .p 3 0, .c (.int .i64 (i)), .j, .j, .j, .j, .j, .j, .j, .j, .j, .j, .j, .j, .j, .j, .j, .j, .j], [⟨true, bs a⟩, ⟨true, bs b⟩, ⟨true, bs (List.replicate 16 0)⟩, ⟨true, bs (fl 8 (fun _ => 0) (fun i => a.getD i 0) i ++ fl 8 (fun _ => 0) (fun i => b.getD i 0) i)⟩])) (fun i => 8 - i) (fun i => i ≤ 8) 0 (by omega)
    ⟨[0, 1, 2, 3], by rw [← fl_zero, ← fl_zero, ← rep16_8]; simp [-List.reduceReplicate, LES]⟩ ?_
  intro i hi
  have hal : (fl 8 (fun _ => 0) (fun i => a.getD i 0) i ++ fl 8 (fun _ => 0) (fun i => b.getD i 0) i).length = 16 := by rw [List.length_append, fl_len, fl_len]
  rcases Nat.lt_or_ge i 8 with h | h
  · have w1 : IntKind.i64.wrap (8 + (i : Int)) = ((8 + i : Nat) : Int) := by rw [wrap_i64 (by omega) (by omega)]; omega
    simp only [↓VC, VP, TT, Nat.reduceEqDiff, reduceCtorEq, Nat.reduceAdd, Nat.reduceSub, Nat.reduceLT, Nat.reduceMul, Nat.reducePow, Nat.reduceLeDiff, Int.reduceToNat, Int.reduceLE, Int.reduceLT, Int.reducePow, ha, hb, hal, h, (eq_true (by omega) : ((i : Int) < 8) = True), (eq_true (by omega) : ((i : Int) < ((8 : Nat) : Int)) = True), wrap_i64 (n := (i : Int) + 1) (by omega) (by omega), decide_true, w1, h, List.length_set, (eq_true (by omega) : ((i : Int) < ((8 : Nat) : Int)) = True), (eq_true (by omega) : ((i : Int) < ((16 : Nat) : Int)) = True), (eq_true (by omega) : (((8 + i : Nat) : Int) < ((16 : Nat) : Int)) = True), (eq_true (by omega) : (i < 16) = True), (eq_true (by omega) : (8 + i < 16) = True)]
    refine ⟨i + 1, by omega, by omega, [0, 1, 2, 3], ?_⟩
    rw [app_set_l (by rw [fl_len]; exact h), fl_set h rfl, app_set_r (fl_len _ _ _ _), fl_set h rfl]
    simp [-List.reduceReplicate, LES]
  · obtain rfl : i = 8 := by omega
    simp only [↓VC, VP, TT, Nat.reduceEqDiff, reduceCtorEq, Nat.reduceAdd, Nat.reduceSub, Nat.reduceLT, Nat.reduceMul, Nat.reducePow, Nat.reduceLeDiff, Int.reduceToNat, Int.reduceLE, Int.reduceLT, Int.reducePow, hal, (eq_false (by omega) : (((8 : Nat) : Int) < 8) = False), decide_false]
    rw [fl_done, fl_done, range_getD ha, range_getD hb]
    refine ⟨_, _, [], ⟨rfl, rfl⟩, ?_⟩
    simp [-List.reduceReplicate, LES] <;> rfl
theorem c_spec_l06Quarters (b : List UInt8) (hb : b.length = 16) : LC Tryz.prog 64 [.a (bs b)] [] (fun v hp => v = .a (bs (b.take 4 ++ (b.drop 8).take 4)) ∧ hp = []) := by
  have rep8 : List.replicate 8 (0 : UInt8) = List.replicate 4 0 ++ List.replicate 4 0 := by decide
  have e1 : tab 4 (fun i => b.getD i 0) = b.take 4 := by
    refine ext_getD (tab_len _ _) (by rw [List.length_take]; omega) fun i hi => ?_
    rw [map_getD hi]
    simp only [List.getD_eq_getElem?_getD, List.getElem?_take, if_pos hi]
  have e2 : tab 4 (fun i => b.getD (8 + i) 0) = (b.drop 8).take 4 := by
    refine ext_getD (tab_len _ _) (by rw [List.length_take, List.length_drop]; omega) fun i hi => ?_
    rw [map_getD hi]
    simp only [List.getD_eq_getElem?_getD, List.getElem?_take, if_pos hi, List.getElem?_drop]
  refine LC_of (X := XX (fun _ => .nil) (fun _ => []) [33, 34, 35, 36, 39, 45, 53, 54, 65, 75, 90, 91, 92, 104] 0) envOK Tryz.func64 (by kernel_rfl) (by kernel_rfl) rfl (Nat.le_of_ble_eq_true (by kernel_rfl)) ?_
  simp only [kFun, Tryz.f64, List.length_nil, List.length_cons, Nat.sub_zero, Nat.reduceSub, Nat.reduceAdd, List.nil_append, List.cons_append, List.replicate_succ, List.replicate_zero]
  simp only [XX, ↓VC, VP, TT, Nat.reduceEqDiff, reduceCtorEq, Nat.reduceAdd, Nat.reduceSub, Nat.reduceLT, Nat.reduceMul, Nat.reducePow, Nat.reduceLeDiff, Int.reduceToNat, Int.reduceLE, Int.reduceLT, Int.reducePow, hb]
  refine kLoop_of (fun i : Nat => ([.j, .p 0 0, .p 1 0, .p 2 0, .c (.int .i64 (i)), .j, .j, .j, .j, .j, .j, .j, .j, .j, .j, .j, .j, .j, .j, .j, .j, .j, .j], [⟨true, bs b⟩, ⟨true, bs (List.replicate 8 0)⟩, ⟨true, bs (fl 4 (fun _ => 0) (fun i => b.getD i 0) i ++ fl 4 (fun _ => 0) (fun i => b.getD (8 + i) 0) i)⟩])) (fun i => 4 - i) (fun i => i ≤ 4) 0 (by omega)
    ⟨[0, 1, 2], by rw [← fl_zero, ← fl_zero, ← rep8]; simp [-List.reduceReplicate, LES]⟩ ?_
  intro i hi
  have hal : (fl 4 (fun _ => 0) (fun i => b.getD i 0) i ++ fl 4 (fun _ => 0) (fun i => b.getD (8 + i) 0) i).length = 8 := by rw [List.length_append, fl_len, fl_len]
  rcases Nat.lt_or_ge i 4 with h | h
  · have w1 : IntKind.i64.wrap (8 + (i : Int)) = ((8 + i : Nat) : Int) := by rw [wrap_i64 (by omega) (by omega)]; omega
    have w2 : IntKind.i64.wrap (4 + (i : Int)) = ((4 + i : Nat) : Int) := by rw [wrap_i64 (by omega) (by omega)]; omega
    simp only [↓VC, VP, TT, Nat.reduceEqDiff, reduceCtorEq, Nat.reduceAdd, Nat.reduceSub, Nat.reduceLT, Nat.reduceMul, Nat.reducePow, Nat.reduceLeDiff, Int.reduceToNat, Int.reduceLE, Int.reduceLT, Int.reducePow, hb, hal, h, (eq_true (by omega) : ((i : Int) < 4) = True), (eq_true (by omega) : ((i : Int) < ((4 : Nat) : Int)) = True), wrap_i64 (n := (i : Int) + 1) (by omega) (by omega), decide_true, w1, w2, h, List.length_set, (eq_true (by omega) : ((i : Int) < ((8 : Nat) : Int)) = True), (eq_true (by omega) : ((i : Int) < ((16 : Nat) : Int)) = True), (eq_true (by omega) : (((8 + i : Nat) : Int) < ((16 : Nat) : Int)) = True), (eq_true (by omega) : (((4 + i : Nat) : Int) < ((8 : Nat) : Int)) = True), (eq_true (by omega) : (i < 16) = True), (eq_true (by omega) : (i < 8) = True), (eq_true (by omega) : (8 + i < 16) = True), (eq_true (by omega) : (4 + i < 8) = True)]
    refine ⟨i + 1, by omega, by omega, [0, 1, 2], ?_⟩
    rw [app_set_l (by rw [fl_len]; exact h), fl_set h rfl, app_set_r (fl_len _ _ _ _), fl_set h rfl]
    simp [-List.reduceReplicate, LES]
  · obtain rfl : i = 4 := by omega
    simp only [↓VC, VP, TT, Nat.reduceEqDiff, reduceCtorEq, Nat.reduceAdd, Nat.reduceSub, Nat.reduceLT, Nat.reduceMul, Nat.reducePow, Nat.reduceLeDiff, Int.reduceToNat, Int.reduceLE, Int.reduceLT, Int.reducePow, hal, (eq_false (by omega) : (((4 : Nat) : Int) < 4) = False), decide_false]
    rw [fl_done, fl_done, e1, e2]
    refine ⟨_, _, [], ⟨rfl, rfl⟩, ?_⟩
    simp [-List.reduceReplicate, LES] <;> rfl
theorem c_spec_l06Lead (m : Nat) (A s : List UInt8) (hm : 256 ≤ m) (hm' : m < 512) (hA : A.length = 16) (hs : s.length = 8) : LC Tryz.prog 85 [.c (.int .i64 (m)), .a (bs A), .a (bs s)] [] (fun v hp => v = .a (bs (mixL 8 m A s)) ∧ hp = []) := by
  refine LC_of (X := XX (fun | 11 => .one 0 (.one 1 (.one 2 (.one 3 (.one 4 (.one 5 (.one 6 (.one 7 (.one 8 (.one 9 (.one 10 (.one 11 (.one 12 (.one 13 (.one 14 (.one 15 (.one 16 (.one 17 (.one 18 (.one 19 (.one 20 (.one 21 (.one 22 (.one 23 (.one 24 (.one 25 .nil))))))))))))))))))))))))) | _ => .nil) (fun _ => []) [33, 34, 35, 36, 39, 45, 53, 54, 65, 75, 90, 91, 92, 104] 0) envOK Tryz.func85 (by kernel_rfl) (by kernel_rfl) rfl (Nat.le_of_ble_eq_true (by kernel_rfl)) ?_
  simp only [kFun, Tryz.f85, List.length_nil, List.length_cons, Nat.sub_zero, Nat.reduceSub, Nat.reduceAdd, List.nil_append, List.cons_append, List.replicate_succ, List.replicate_zero]
  simp only [XX, ↓VC, VP, TT, Nat.reduceEqDiff, reduceCtorEq, Nat.reduceAdd, Nat.reduceSub, Nat.reduceLT, Nat.reduceMul, Nat.reducePow, Nat.reduceLeDiff, Int.reduceToNat, Int.reduceLE, Int.reduceLT, Int.reducePow, hA, hs]
  refine kLoop_of (fun c : Nat => ([.c (.int .i64 (m)), .j, .j, .j, .p 0 0, .p 1 0, .p 2 0, .p 3 0, .c (.int .i64 (c)), .j, .j, .j, .j, .j, .j, .j, .j, .j, .j, .j, .j, .j, .j, .j, .j, .j, .j, .j, .j, .j, .j, .j, .j, .j, .j, .j, .j, .j, .j, .j, .j, .j, .j, .j, .j, .j, .j, .j, .j, .j], [⟨true, bs A⟩, ⟨true, bs s⟩, ⟨true, bs (List.replicate 8 0)⟩, ⟨true, bs (fl 8 (fun _ => 0) (fun x => mixB m A s x 4) (4 * c))⟩])) (fun c => 2 - c) (fun c => c ≤ 2) 0 (by omega)
    ⟨[0, 1, 2, 3], by rw [← fl_zero]; simp [-List.reduceReplicate, LES]⟩ ?_
  intro c hc
  rcases Nat.lt_or_ge c 2 with h | h
  · simp only [↓VC, VP, TT, Nat.reduceEqDiff, reduceCtorEq, Nat.reduceAdd, Nat.reduceSub, Nat.reduceLT, Nat.reduceMul, Nat.reducePow, Nat.reduceLeDiff, Int.reduceToNat, Int.reduceLE, Int.reduceLT, Int.reducePow, h, (eq_true (by omega) : ((c : Int) < 2) = True), (eq_true (by omega) : ((c : Int) < ((2 : Nat) : Int)) = True), wrap_i64 (n := (c : Int) + 1) (by omega) (by omega), decide_true]
    refine kLoop_of (fun i : Nat => ([.c (.int .i64 (m)), .j, .j, .j, .p 0 0, .p 1 0, .p 2 0, .p 3 0, .c (.int .i64 (c)), .c (.int .i64 (i)), .j, .j, .j, .j, .j, .j, .j, .j, .j, .j, .j, .j, .j, .j, .j, .j, .j, .j, .j, .j, .j, .j, .j, .j, .j, .j, .j, .j, .j, .j, .j, .j, .j, .j, .j, .j, .j, .j, .j, .j], [⟨true, bs A⟩, ⟨true, bs s⟩, ⟨true, bs (List.replicate 8 0)⟩, ⟨true, bs (fl 8 (fun _ => 0) (fun x => mixB m A s x 4) (4 * c + i))⟩])) (fun i => 4 - i) (fun i => i ≤ 4) 0 (by omega)
      ⟨[0, 1, 2, 3], by simp [-List.reduceReplicate, LES]⟩ ?_
    intro i hi
    rcases Nat.lt_or_ge i 4 with h2 | h2
    · simp only [↓VC, VP, TT, Nat.reduceEqDiff, reduceCtorEq, Nat.reduceAdd, Nat.reduceSub, Nat.reduceLT, Nat.reduceMul, Nat.reducePow, Nat.reduceLeDiff, Int.reduceToNat, Int.reduceLE, Int.reduceLT, Int.reducePow, h2, (eq_true (by omega) : ((i : Int) < 4) = True), (eq_true (by omega) : ((i : Int) < ((4 : Nat) : Int)) = True), wrap_i64 (n := (i : Int) + 1) (by omega) (by omega), decide_true]
      refine kLoop_of (fun j : Nat => ([.c (.int .i64 (m)), .j, .j, .j, .p 0 0, .p 1 0, .p 2 0, .p 3 0, .c (.int .i64 (c)), .c (.int .i64 (i)), .c (.int .i64 (j)), .j, .j, .j, .j, .j, .j, .j, .j, .j, .j, .j, .j, .j, .j, .j, .j, .j, .j, .j, .j, .j, .j, .j, .j, .j, .j, .j, .j, .j, .j, .j, .j, .j, .j, .j, .j, .j, .j, .j], [⟨true, bs A⟩, ⟨true, bs s⟩, ⟨true, bs (List.replicate 8 0)⟩, ⟨true, bs ((fl 8 (fun _ => 0) (fun x => mixB m A s x 4) (4 * c + i)).set (4 * c + i) (mixB m A s (4 * c + i) j))⟩])) (fun j => 4 - j) (fun j => j ≤ 4) 0 (by omega)
        ⟨[0, 1, 2, 3], by have := fl_set_same (n := 8) (f0 := fun _ => 0) (g := fun x => mixB m A s x 4) (i := 4 * c + i) (by omega); rw [show mixB m A s (4 * c + i) 0 = 0 from rfl, this]; simp [-List.reduceReplicate, LES]⟩ ?_
      intro j hj
      rcases Nat.lt_or_ge j 4 with h3 | h3
      · have w1 : IntKind.i64.wrap (4 * (c : Int)) = ((4 * c : Nat) : Int) := by rw [wrap_i64 (by omega) (by omega)]; omega
        have w2 : IntKind.i64.wrap (((4 * c : Nat) : Int) + i) = ((4 * c + i : Nat) : Int) := by rw [wrap_i64 (by omega) (by omega)]; omega
        have w3 : IntKind.i64.wrap (((4 * c : Nat) : Int) + j) = ((4 * c + j : Nat) : Int) := by rw [wrap_i64 (by omega) (by omega)]; omega
        have g1 := set_getD (l := fl 8 (fun _ => 0) (fun x => mixB m A s x 4) (4 * c + i)) (i := 4 * c + i) (by rw [fl_len]; omega) (mixB m A s (4 * c + i) j)
        simp only [↓VC, VP, TT, Nat.reduceEqDiff, reduceCtorEq, Nat.reduceAdd, Nat.reduceSub, Nat.reduceLT, Nat.reduceMul, Nat.reducePow, Nat.reduceLeDiff, Int.reduceToNat, Int.reduceLE, Int.reduceLT, Int.reducePow, h3, (eq_true (by omega) : ((j : Int) < 4) = True), (eq_true (by omega) : ((j : Int) < ((4 : Nat) : Int)) = True), wrap_i64 (n := (j : Int) + 1) (by omega) (by omega), decide_true, w1, w2, w3, fl_len, hA, hs, h2, (eq_true (by omega) : ((i : Int) < ((4 : Nat) : Int)) = True), (eq_true (by omega) : (((4 * c + i : Nat) : Int) < ((8 : Nat) : Int)) = True), (eq_true (by omega) : (((4 * c + j : Nat) : Int) < ((8 : Nat) : Int)) = True), (eq_true (by omega) : (4 * c + i < 8) = True), (eq_true (by omega) : (4 * c + j < 8) = True), (eq_true (by omega) : (i * 4 + j < 16) = True)]
        refine kCall_val (c_spec_l01Times m (A.getD (i * 4 + j) 0) (s.getD (4 * c + j) 0) hm hm') (by rfl) [] (by simp [CALL]) (by simp [CALL, cellsAt]) (by simp [CALL]) (by simp [okL_bs]) ?_
        simp only [CALL, ↓VC, VP, TT, Nat.reduceEqDiff, reduceCtorEq, Nat.reduceAdd, Nat.reduceSub, Nat.reduceLT, Nat.reduceMul, Nat.reducePow, Nat.reduceLeDiff, Int.reduceToNat, Int.reduceLE, Int.reduceLT, Int.reducePow, fl_len, (eq_true (by omega) : (((4 * c + i : Nat) : Int) < ((8 : Nat) : Int)) = True), (eq_true (by omega) : (4 * c + i < 8) = True)]
        refine ⟨j + 1, by omega, by omega, [0, 1, 2, 3], ?_⟩
        rw [g1, List.set_set, ← mixB_succ h2, wrap_i64 (by omega) (by omega)]
        simp [-List.reduceReplicate, LES]
      · obtain rfl : j = 4 := by omega
        simp only [↓VC, VP, TT, Nat.reduceEqDiff, reduceCtorEq, Nat.reduceAdd, Nat.reduceSub, Nat.reduceLT, Nat.reduceMul, Nat.reducePow, Nat.reduceLeDiff, Int.reduceToNat, Int.reduceLE, Int.reduceLT, Int.reducePow, (eq_false (by omega) : (((4 : Nat) : Int) < 4) = False), decide_false, wrap_i64 (n := (i : Int) + 1) (by omega) (by omega)]
        refine ⟨i + 1, by omega, by omega, [0, 1, 2, 3], ?_⟩
        rw [fl_set (by omega) rfl]
        simp [-List.reduceReplicate, LES]; exact .inr rfl
    · obtain rfl : i = 4 := by omega
      simp only [↓VC, VP, TT, Nat.reduceEqDiff, reduceCtorEq, Nat.reduceAdd, Nat.reduceSub, Nat.reduceLT, Nat.reduceMul, Nat.reducePow, Nat.reduceLeDiff, Int.reduceToNat, Int.reduceLE, Int.reduceLT, Int.reducePow, (eq_false (by omega) : (((4 : Nat) : Int) < 4) = False), decide_false, wrap_i64 (n := (c : Int) + 1) (by omega) (by omega)]
      exact ⟨c + 1, by omega, by omega, [0, 1, 2, 3], by simp [-List.reduceReplicate, LES]; exact .inr rfl⟩
  · obtain rfl : c = 2 := by omega
    simp only [↓VC, VP, TT, Nat.reduceEqDiff, reduceCtorEq, Nat.reduceAdd, Nat.reduceSub, Nat.reduceLT, Nat.reduceMul, Nat.reducePow, Nat.reduceLeDiff, Int.reduceToNat, Int.reduceLE, Int.reduceLT, Int.reducePow, fl_len, (eq_false (by omega) : (((2 : Nat) : Int) < 2) = False), decide_false]
    rw [fl_done]; refine ⟨_, _, [], ⟨rfl, rfl⟩, ?_⟩; simp [-List.reduceReplicate, LES, mixL]
def netB (z : Int) (box A : List UInt8) (k n : Int) : Bool := fieldB z && (permB box && (invB z A && (decide (0 ≤ k ∧ k ≤ 2) && decide (1 ≤ n ∧ n ≤ 40))))
theorem c_spec_l06Is (z k n : Int) (box A : List UInt8) (hb : box.length = 256) (hA : A.length = 16) : LC Tryz.prog 37 [.a (netC z box A k n)] [] (fun v hp => v = .c (.bool (netB z box A k n)) ∧ hp = []) := by
  refine LC_of (X := XX (fun _ => .nil) (fun _ => []) [33, 34, 35, 36, 39, 45, 53, 54, 65, 75, 90, 91, 92, 104] 0) envOK Tryz.func37 (by kernel_rfl) (by kernel_rfl) rfl (Nat.le_of_ble_eq_true (by kernel_rfl)) ?_
  simp only [kFun, Tryz.f37, List.length_nil, List.length_cons, Nat.sub_zero, Nat.reduceSub, Nat.reduceAdd, List.nil_append, List.cons_append, List.replicate_succ, List.replicate_zero]
  simp only [XX, ↓VC, VP, TT, Nat.reduceEqDiff, reduceCtorEq, Nat.reduceAdd, Nat.reduceSub, Nat.reduceLT, Nat.reduceMul, Nat.reducePow, Nat.reduceLeDiff, Int.reduceToNat, Int.reduceLE, Int.reduceLT, Int.reducePow, netC_len hb hA, ↓net_all hb hA, ↓net_field, ↓net_box hb, ↓net_mix hb hA, ↓net_kind hb hA, ↓net_rd hb hA]
  refine kCall_val (c_spec_l01Field z) (by rfl) [] (by simp [CALL]) (by simp [CALL, cellsAt]) (by simp [CALL]) (by simp [okL_bs]) ?_
  simp only [CALL, ↓VC, VP, TT, Nat.reduceEqDiff, reduceCtorEq, Nat.reduceAdd, Nat.reduceSub, Nat.reduceLT, Nat.reduceMul, Nat.reducePow, Nat.reduceLeDiff, Int.reduceToNat, Int.reduceLE, Int.reduceLT, Int.reducePow]
  refine kGd_split rfl (fun h1 => ?_) (fun h1 => ?_) <;> simp only [↓VC, VP, TT, Nat.reduceEqDiff, reduceCtorEq, Nat.reduceAdd, Nat.reduceSub, Nat.reduceLT, Nat.reduceMul, Nat.reducePow, Nat.reduceLeDiff, Int.reduceToNat, Int.reduceLE, Int.reduceLT, Int.reducePow, h1, ↓net_field, ↓net_box hb, ↓net_mix hb hA, ↓net_kind hb hA, ↓net_rd hb hA]
  rotate_left
  · refine ⟨_, _, [], ⟨rfl, rfl⟩, ?_⟩
    simp [-List.reduceReplicate, LES, netB, h1] <;> rfl
  obtain ⟨m, rfl, hm, hm'⟩ := fieldB_spec h1
  refine kCall_val (c_spec_l02Is box hb) (by rfl) [] (by simp [CALL]) (by simp [CALL, cellsAt]) (by simp [CALL]) (by simp [okL_bs]) ?_
  simp only [CALL, ↓VC, VP, TT, Nat.reduceEqDiff, reduceCtorEq, Nat.reduceAdd, Nat.reduceSub, Nat.reduceLT, Nat.reduceMul, Nat.reducePow, Nat.reduceLeDiff, Int.reduceToNat, Int.reduceLE, Int.reduceLT, Int.reducePow]
  refine kGd_split rfl (fun h2 => ?_) (fun h2 => ?_) <;> simp only [↓VC, VP, TT, Nat.reduceEqDiff, reduceCtorEq, Nat.reduceAdd, Nat.reduceSub, Nat.reduceLT, Nat.reduceMul, Nat.reducePow, Nat.reduceLeDiff, Int.reduceToNat, Int.reduceLE, Int.reduceLT, Int.reducePow, h2, ↓net_field, ↓net_box hb, ↓net_mix hb hA, ↓net_kind hb hA, ↓net_rd hb hA]
  rotate_left
  · refine ⟨_, _, [], ⟨rfl, rfl⟩, ?_⟩
    simp [-List.reduceReplicate, LES, netB, h2] <;> rfl
  refine kCall_val (c_spec_l03Is m A hm hm' hA) (by rfl) [] (by simp [CALL]) (by simp [CALL, cellsAt]) (by simp [CALL]) (by simp [okL_bs]) ?_
  simp only [CALL, ↓VC, VP, TT, Nat.reduceEqDiff, reduceCtorEq, Nat.reduceAdd, Nat.reduceSub, Nat.reduceLT, Nat.reduceMul, Nat.reducePow, Nat.reduceLeDiff, Int.reduceToNat, Int.reduceLE, Int.reduceLT, Int.reducePow]
  refine kGd_split rfl (fun h3 => ?_) (fun h3 => ?_) <;> simp only [↓VC, VP, TT, Nat.reduceEqDiff, reduceCtorEq, Nat.reduceAdd, Nat.reduceSub, Nat.reduceLT, Nat.reduceMul, Nat.reducePow, Nat.reduceLeDiff, Int.reduceToNat, Int.reduceLE, Int.reduceLT, Int.reducePow, h3, ↓net_field, ↓net_box hb, ↓net_mix hb hA, ↓net_kind hb hA, ↓net_rd hb hA]
  rotate_left
  · refine ⟨_, _, [], ⟨rfl, rfl⟩, ?_⟩
    simp [-List.reduceReplicate, LES, netB, h3] <;> rfl
  refine kCall_val (c_spec_l01In k 0 2) (by rfl) [] (by simp [CALL]) (by simp [CALL, cellsAt]) (by simp [CALL]) (by simp [okL_bs]) ?_
  simp only [CALL, ↓VC, VP, TT, Nat.reduceEqDiff, reduceCtorEq, Nat.reduceAdd, Nat.reduceSub, Nat.reduceLT, Nat.reduceMul, Nat.reducePow, Nat.reduceLeDiff, Int.reduceToNat, Int.reduceLE, Int.reduceLT, Int.reducePow]
  refine kGd_split rfl (fun h4 => ?_) (fun h4 => ?_) <;> simp only [↓VC, VP, TT, Nat.reduceEqDiff, reduceCtorEq, Nat.reduceAdd, Nat.reduceSub, Nat.reduceLT, Nat.reduceMul, Nat.reducePow, Nat.reduceLeDiff, Int.reduceToNat, Int.reduceLE, Int.reduceLT, Int.reducePow, h4, ↓net_field, ↓net_box hb, ↓net_mix hb hA, ↓net_kind hb hA, ↓net_rd hb hA]
  rotate_left
  · rw [decide_eq_false_iff_not] at h4
    refine ⟨_, _, [], ⟨rfl, rfl⟩, ?_⟩
    simp [-List.reduceReplicate, LES, netB, h4] <;> rfl
  rw [decide_eq_true_eq] at h4
  refine kCall_val (c_spec_l01In n 1 40) (by rfl) [] (by simp [CALL]) (by simp [CALL, cellsAt]) (by simp [CALL]) (by simp [okL_bs]) ?_
  simp only [CALL, ↓VC, VP, TT, Nat.reduceEqDiff, reduceCtorEq, Nat.reduceAdd, Nat.reduceSub, Nat.reduceLT, Nat.reduceMul, Nat.reducePow, Nat.reduceLeDiff, Int.reduceToNat, Int.reduceLE, Int.reduceLT, Int.reducePow]
  refine ⟨_, _, [], ⟨rfl, rfl⟩, ?_⟩
  simp [-List.reduceReplicate, LES, netB, h1, h2, h3, h4] <;> rfl
theorem c_impl_IsNetwork (z k n : Int) (box A : List UInt8) (hb : box.length = 256) (hA : A.length = 16) : LC Tryz.prog 40 [.a (netC z box A k n)] [] (fun v hp => v = .c (.bool (netB z box A k n)) ∧ hp = []) := by
  refine LC_of (X := XX (fun _ => .nil) (fun _ => []) [33, 34, 35, 36, 39, 45, 53, 54, 65, 75, 90, 91, 92, 104] 0) envOK Tryz.func40 (by kernel_rfl) (by kernel_rfl) rfl (Nat.le_of_ble_eq_true (by kernel_rfl)) ?_
  simp only [kFun, Tryz.f40, List.length_nil, List.length_cons, Nat.sub_zero, Nat.reduceSub, Nat.reduceAdd, List.nil_append, List.cons_append, List.replicate_succ, List.replicate_zero]
  simp only [XX, ↓VC, VP, TT, Nat.reduceEqDiff, reduceCtorEq, Nat.reduceAdd, Nat.reduceSub, Nat.reduceLT, Nat.reduceMul, Nat.reducePow, Nat.reduceLeDiff, Int.reduceToNat, Int.reduceLE, Int.reduceLT, Int.reducePow, netC_len hb hA, ↓net_all hb hA, ↓net_field, ↓net_box hb, ↓net_mix hb hA, ↓net_kind hb hA, ↓net_rd hb hA]
  refine kCall_val (c_impl_IsField z) (by rfl) [] (by simp [CALL]) (by simp [CALL, cellsAt]) (by simp [CALL]) (by simp [okL_bs]) ?_
  simp only [CALL, ↓VC, VP, TT, Nat.reduceEqDiff, reduceCtorEq, Nat.reduceAdd, Nat.reduceSub, Nat.reduceLT, Nat.reduceMul, Nat.reducePow, Nat.reduceLeDiff, Int.reduceToNat, Int.reduceLE, Int.reduceLT, Int.reducePow]
  refine kGd_split rfl (fun h1 => ?_) (fun h1 => ?_) <;> simp only [↓VC, VP, TT, Nat.reduceEqDiff, reduceCtorEq, Nat.reduceAdd, Nat.reduceSub, Nat.reduceLT, Nat.reduceMul, Nat.reducePow, Nat.reduceLeDiff, Int.reduceToNat, Int.reduceLE, Int.reduceLT, Int.reducePow, h1, ↓net_field, ↓net_box hb, ↓net_mix hb hA, ↓net_kind hb hA, ↓net_rd hb hA]
  rotate_left
  · refine ⟨_, _, [], ⟨rfl, rfl⟩, ?_⟩
    simp [-List.reduceReplicate, LES, netB, h1] <;> rfl
  obtain ⟨m, rfl, hm, hm'⟩ := fieldB_spec h1
  refine kCall_val (c_impl_IsPermutation box hb) (by rfl) [] (by simp [CALL]) (by simp [CALL, cellsAt]) (by simp [CALL]) (by simp [okL_bs]) ?_
  simp only [CALL, ↓VC, VP, TT, Nat.reduceEqDiff, reduceCtorEq, Nat.reduceAdd, Nat.reduceSub, Nat.reduceLT, Nat.reduceMul, Nat.reducePow, Nat.reduceLeDiff, Int.reduceToNat, Int.reduceLE, Int.reduceLT, Int.reducePow]
  refine kGd_split rfl (fun h2 => ?_) (fun h2 => ?_) <;> simp only [↓VC, VP, TT, Nat.reduceEqDiff, reduceCtorEq, Nat.reduceAdd, Nat.reduceSub, Nat.reduceLT, Nat.reduceMul, Nat.reducePow, Nat.reduceLeDiff, Int.reduceToNat, Int.reduceLE, Int.reduceLT, Int.reducePow, h2, ↓net_field, ↓net_box hb, ↓net_mix hb hA, ↓net_kind hb hA, ↓net_rd hb hA]
  rotate_left
  · refine ⟨_, _, [], ⟨rfl, rfl⟩, ?_⟩
    simp [-List.reduceReplicate, LES, netB, h2] <;> rfl
  refine kCall_val (c_impl_isInvertible m A hm hm' hA) (by rfl) [] (by simp [CALL]) (by simp [CALL, cellsAt]) (by simp [CALL]) (by simp [okL_bs]) ?_
  simp only [CALL, ↓VC, VP, TT, Nat.reduceEqDiff, reduceCtorEq, Nat.reduceAdd, Nat.reduceSub, Nat.reduceLT, Nat.reduceMul, Nat.reducePow, Nat.reduceLeDiff, Int.reduceToNat, Int.reduceLE, Int.reduceLT, Int.reducePow]
  refine kGd_split rfl (fun h3 => ?_) (fun h3 => ?_) <;> simp only [↓VC, VP, TT, Nat.reduceEqDiff, reduceCtorEq, Nat.reduceAdd, Nat.reduceSub, Nat.reduceLT, Nat.reduceMul, Nat.reducePow, Nat.reduceLeDiff, Int.reduceToNat, Int.reduceLE, Int.reduceLT, Int.reducePow, h3, ↓net_field, ↓net_box hb, ↓net_mix hb hA, ↓net_kind hb hA, ↓net_rd hb hA]
  rotate_left
  · refine ⟨_, _, [], ⟨rfl, rfl⟩, ?_⟩
    simp [-List.reduceReplicate, LES, netB, h3] <;> rfl
  refine kCall_val (c_impl_inRange k 0 2) (by rfl) [] (by simp [CALL]) (by simp [CALL, cellsAt]) (by simp [CALL]) (by simp [okL_bs]) ?_
  simp only [CALL, ↓VC, VP, TT, Nat.reduceEqDiff, reduceCtorEq, Nat.reduceAdd, Nat.reduceSub, Nat.reduceLT, Nat.reduceMul, Nat.reducePow, Nat.reduceLeDiff, Int.reduceToNat, Int.reduceLE, Int.reduceLT, Int.reducePow]
  refine kGd_split rfl (fun h4 => ?_) (fun h4 => ?_) <;> simp only [↓VC, VP, TT, Nat.reduceEqDiff, reduceCtorEq, Nat.reduceAdd, Nat.reduceSub, Nat.reduceLT, Nat.reduceMul, Nat.reducePow, Nat.reduceLeDiff, Int.reduceToNat, Int.reduceLE, Int.reduceLT, Int.reducePow, h4, ↓net_field, ↓net_box hb, ↓net_mix hb hA, ↓net_kind hb hA, ↓net_rd hb hA]
  rotate_left
  · rw [decide_eq_false_iff_not] at h4
    refine ⟨_, _, [], ⟨rfl, rfl⟩, ?_⟩
    simp [-List.reduceReplicate, LES, netB, h4] <;> rfl
  rw [decide_eq_true_eq] at h4
  refine kCall_val (c_impl_inRange n 1 40) (by rfl) [] (by simp [CALL]) (by simp [CALL, cellsAt]) (by simp [CALL]) (by simp [okL_bs]) ?_
  simp only [CALL, ↓VC, VP, TT, Nat.reduceEqDiff, reduceCtorEq, Nat.reduceAdd, Nat.reduceSub, Nat.reduceLT, Nat.reduceMul, Nat.reducePow, Nat.reduceLeDiff, Int.reduceToNat, Int.reduceLE, Int.reduceLT, Int.reducePow]
  refine ⟨_, _, [], ⟨rfl, rfl⟩, ?_⟩
  simp [-List.reduceReplicate, LES, netB, h1, h2, h3, h4] <;> rfl
end Go.Proofs.YtjakgjelnbpmnaaGreat
/- The laws' own helpers over slices of halves. -/
set_option linter.unusedSimpArgs false
set_option linter.unusedVariables false
namespace Go.Proofs.YtjakgjelnbpmnaaGreat
open Go Go.Vc
set_option maxRecDepth 10000
set_option maxHeartbeats 4000000
/-- The half at a place. -/
def hfA (D : List UInt8) (i : Nat) : List UInt8 := (D.drop (8 * i)).take 8
theorem hfA_len {D : List UInt8} {i n : Nat} (hD : D.length = 8 * n) (h : i < n) : (hfA D i).length = 8 := by
  unfold hfA; rw [List.length_take, List.length_drop]; omega
theorem hfA_eq (D : List UInt8) (i : Nat) : List.take 8 (List.drop (i * 8) D) = hfA D i := by rw [Nat.mul_comm]; rfl
end Go.Proofs.YtjakgjelnbpmnaaGreat
/- Networks: the reference's round functions, rounds, both ways. -/
set_option linter.unusedSimpArgs false
set_option linter.unusedVariables false
namespace Go.Proofs.YtjakgjelnbpmnaaGreat
open Go Go.Vc
set_option maxRecDepth 10000
set_option maxHeartbeats 4000000
/-- A network with what is known of it. -/
structure Net where
  m : Nat
  box : List UInt8
  A : List UInt8
  k : Int
  n : Nat
  hm : 256 ≤ m
  hm' : m < 512
  hb : box.length = 256
  hA : A.length = 16
  hk : 0 ≤ k
  hk' : k ≤ 2
  hn1 : 1 ≤ n
  hn : n ≤ 40
  is : netB m box A k n = true
theorem net_of {z : Int} {box A : List UInt8} {k n : Int} (hb : box.length = 256) (hA : A.length = 16) (h : netB z box A k n = true) : ∃ c : Net, z = c.m ∧ box = c.box ∧ A = c.A ∧ k = c.k ∧ n = c.n := by
  have h0 := h
  unfold netB at h
  simp only [Bool.and_eq_true, decide_eq_true_eq] at h
  obtain ⟨m, rfl, h1, h2⟩ := fieldB_spec h.1
  obtain ⟨j, rfl⟩ : ∃ j : Nat, n = j := ⟨n.toNat, by omega⟩
  exact ⟨⟨m, box, A, k, j, h1, h2, hb, hA, by omega, by omega, by omega, by omega, h0⟩, rfl, rfl, rfl, rfl, rfl⟩
namespace Net
variable (c : Net)
def cells : List V := netC c.m c.box c.A c.k c.n
def fn (key x : List UInt8) : List UInt8 := fnL c.m c.box c.A key x
def fb (key y : List UInt8) : List UInt8 := fbL c.m c.box (backL c.m c.A) key y
def rnd (key b : List UInt8) : List UInt8 := rndL c.m c.box c.A c.k key b
end Net
section
variable {c : Net} {kc : V → Prop}
theorem n_len : c.cells.length = 275 := netC_len c.hb c.hA
theorem n_all {n : Nat} (hn : n = 275) : vSub c.cells 0 n kc = kc (.a c.cells) := net_all c.hb c.hA hn
theorem n_field : vGet c.cells 0 kc = kc (.c (.int .i64 c.m)) := net_field
theorem n_box : vSub c.cells 1 256 kc = kc (.a (bs c.box)) := net_box c.hb
theorem n_mix : vSub c.cells 257 16 kc = kc (.a (bs c.A)) := net_mix c.hb c.hA
theorem n_kind : vGet c.cells 273 kc = kc (.c (.int .i64 c.k)) := net_kind c.hb c.hA
theorem n_rd : vGet c.cells 274 kc = kc (.c (.int .i64 c.n)) := net_rd c.hb c.hA
theorem n_at (u : UInt8) : vGet c.cells (1 + u.toNat) kc = kc (.c (.int .u8 ((c.box.getD u.toNat 0).toNat : Int))) := by
  have hu := u.toNat_lt
  unfold Net.cells netC
  rw [vGet_oneAdd, vGet_appL (by rw [bs_length, c.hb]; omega), vGet_bs, c.hb]
  simp; omega
theorem n_ren (σ : List Nat) : V.renL σ c.cells = c.cells := renL_net σ
theorem n_inst (sub : List (Nat × Nat)) (N : Nat) : V.instL sub N c.cells = c.cells := instL_net sub N
theorem n_ok (N : Nat) : okL N c.cells := okL_net N
theorem fn_len (key x : List UInt8) : (c.fn key x).length = 8 := fnL_len _ _ _ _ _
theorem fb_len (key y : List UInt8) : (c.fb key y).length = 8 := fbL_len _ _ _ _ _
theorem rnd_len (key b : List UInt8) (hb : b.length = 16) : (c.rnd key b).length = 16 := rndL_len hb
end
theorem k_spec_NIs (c : Net) : LC Tryz.prog 37 [.a c.cells] [] (fun v hp => v = .c (.bool (true)) ∧ hp = []) := by
  have := c_spec_l06Is c.m c.k c.n c.box c.A c.hb c.hA
  rw [c.is] at this
  exact this
theorem k_impl_NIs (c : Net) : LC Tryz.prog 40 [.a c.cells] [] (fun v hp => v = .c (.bool (true)) ∧ hp = []) := by
  have := c_impl_IsNetwork c.m c.k c.n c.box c.A c.hb c.hA
  rw [c.is] at this
  exact this
theorem k_spec_fn (c : Net) (key x : List UInt8) (hk : key.length = 8) (hx : x.length = 8) : LC Tryz.prog 63 [.a c.cells, .a (bs key), .a (bs x)] [] (fun v hp => v = .a (bs (c.fn key x)) ∧ hp = []) := by
  refine LC_of (X := XX (fun | 5 => .one 0 (.one 1 (.one 2 (.one 3 (.one 4 (.one 5 (.one 6 (.one 7 (.one 8 (.one 9 (.one 10 (.one 11 (.one 12 .nil)))))))))))) | _ => .nil) (fun _ => []) [33, 34, 35, 36, 39, 45, 53, 54, 65, 75, 90, 91, 92, 104] 0) envOK Tryz.func63 (by kernel_rfl) (by kernel_rfl) rfl (Nat.le_of_ble_eq_true (by kernel_rfl)) ?_
  simp only [kFun, Tryz.f63, List.length_nil, List.length_cons, Nat.sub_zero, Nat.reduceSub, Nat.reduceAdd, List.nil_append, List.cons_append, List.replicate_succ, List.replicate_zero]
  simp only [XX, ↓VC, VP, TT, Nat.reduceEqDiff, reduceCtorEq, Nat.reduceAdd, Nat.reduceSub, Nat.reduceLT, Nat.reduceMul, Nat.reducePow, Nat.reduceLeDiff, Int.reduceToNat, Int.reduceLE, Int.reduceLT, Int.reducePow, hk, hx]
  refine kLoop_of (fun i : Nat => ([.j, .j, .j, .p 0 0, .p 1 0, .p 2 0, .p 3 0, .p 4 0, .p 5 0, .c (.int .i64 (i)), .j, .j, .j, .j, .j, .j, .j, .j, .j, .j, .j, .j, .j, .j, .j, .j, .j, .j, .j, .j, .j, .j, .j, .j, .j, .j, .j, .j, .j, .j, .j, .j, .j, .j, .j, .j, .j, .j], [⟨true, c.cells⟩, ⟨true, bs key⟩, ⟨true, bs x⟩, ⟨true, bs (List.replicate 8 0)⟩, ⟨true, bs (fl 8 (fun _ => 0) (fun i => c.box.getD (x.getD i 0 ^^^ key.getD i 0).toNat 0) i)⟩, ⟨true, bs (List.replicate 8 0)⟩])) (fun i => 8 - i) (fun i => i ≤ 8) 0 (by omega)
    ⟨[0, 1, 2, 3, 4, 5], by rw [← fl_zero]; simp [-List.reduceReplicate, LES, n_ren, n_ok]⟩ ?_
  intro i hi
  rcases Nat.lt_or_ge i 8 with h | h
  · simp only [↓VC, VP, TT, Nat.reduceEqDiff, reduceCtorEq, Nat.reduceAdd, Nat.reduceSub, Nat.reduceLT, Nat.reduceMul, Nat.reducePow, Nat.reduceLeDiff, Int.reduceToNat, Int.reduceLE, Int.reduceLT, Int.reducePow, hk, hx, fl_len, fl_set, h, (eq_true (by omega) : ((i : Int) < 8) = True), (eq_true (by omega) : ((i : Int) < ((8 : Nat) : Int)) = True), wrap_i64 (n := (i : Int) + 1) (by omega) (by omega), decide_true, h, ↓n_at, int_lt_256]
    exact ⟨i + 1, by omega, by omega, [0, 1, 2, 3, 4, 5], by simp [-List.reduceReplicate, LES, n_ren, n_ok]⟩
  · obtain rfl : i = 8 := by omega
    simp only [↓VC, VP, TT, Nat.reduceEqDiff, reduceCtorEq, Nat.reduceAdd, Nat.reduceSub, Nat.reduceLT, Nat.reduceMul, Nat.reducePow, Nat.reduceLeDiff, Int.reduceToNat, Int.reduceLE, Int.reduceLT, Int.reducePow, fl_len, (eq_false (by omega) : (((8 : Nat) : Int) < 8) = False), decide_false, ↓n_field, ↓n_mix]
    rw [fl_done, show (tab 8 fun i => c.box.getD (x.getD i 0 ^^^ key.getD i 0).toNat 0) = fnU c.box key x from rfl]
    refine kCall_val (c_spec_l06Lead c.m c.A (fnU c.box key x) c.hm c.hm' c.hA (fnU_len _ _ _)) (by rfl) [] (by simp [CALL, SCB, n_inst, n_ok]) (by simp [CALL, SCB, n_inst, n_ok]) (by simp [CALL, SCB, n_inst, n_ok]) (by simp [okL_bs, okL_room, okL, okV, n_inst, n_ok]) ?_
    simp (config := { maxSteps := 2000000 }) only [CALL, ↓VC, VP, TT, Nat.reduceEqDiff, reduceCtorEq, Nat.reduceAdd, Nat.reduceSub, Nat.reduceLT, Nat.reduceMul, Nat.reducePow, Nat.reduceLeDiff, Int.reduceToNat, Int.reduceLE, Int.reduceLT, Int.reducePow, GOB, fn_len, fb_len, xorN_len, mixL_len, n_inst, n_len, ↓n_all, ↓n_field, ↓n_mix, ↓n_kind, ↓n_box, fnU_len]
    refine kLoop_of (fun i : Nat => ([.j, .j, .j, .j, .j, .j, .p 0 0, .j, .p 1 0, .j, .p 2 0, .c (.int .i64 (i)), .j, .j, .j, .j, .j, .j, .j, .j, .j, .j, .j, .j, .j, .j, .j, .j, .j, .j, .j, .j, .j, .j, .j, .j, .j, .j, .j, .j, .j, .j, .j, .j, .j, .j, .j, .j], [⟨true, bs (List.replicate 8 0)⟩, ⟨true, bs (fl 8 (fun _ => 0) (fun i => (mixL 8 c.m c.A (fnU c.box key x)).getD (3 * i % 8) 0) i)⟩, ⟨true, bs (mixL 8 c.m c.A (fnU c.box key x))⟩])) (fun i => 8 - i) (fun i => i ≤ 8) 0 (by omega)
      ⟨[3, 5, 6], by rw [← fl_zero]; simp [-List.reduceReplicate, LES]⟩ ?_
    intro i hi
    rcases Nat.lt_or_ge i 8 with h | h
    · have w1 : IntKind.i64.wrap (3 * (i : Int)) = ((3 * i : Nat) : Int) := by rw [wrap_i64 (by omega) (by omega)]; omega
      have w2 : Int.tmod ((3 * i : Nat) : Int) 8 = ((3 * i % 8 : Nat) : Int) := rfl
      simp only [↓VC, VP, TT, Nat.reduceEqDiff, reduceCtorEq, Nat.reduceAdd, Nat.reduceSub, Nat.reduceLT, Nat.reduceMul, Nat.reducePow, Nat.reduceLeDiff, Int.reduceToNat, Int.reduceLE, Int.reduceLT, Int.reducePow, mixL_len, fl_len, fl_set, h, (eq_true (by omega) : ((i : Int) < 8) = True), (eq_true (by omega) : ((i : Int) < ((8 : Nat) : Int)) = True), wrap_i64 (n := (i : Int) + 1) (by omega) (by omega), decide_true, h, w1, w2, (eq_true (by omega) : (((3 * i % 8 : Nat) : Int) < ((8 : Nat) : Int)) = True), (eq_true (by omega) : (3 * i % 8 < 8) = True)]
      try refine ⟨by decide, ?_⟩
      exact ⟨i + 1, by omega, by omega, [0, 1, 2], by simp [-List.reduceReplicate, LES]⟩
    · obtain rfl : i = 8 := by omega
      simp only [↓VC, VP, TT, Nat.reduceEqDiff, reduceCtorEq, Nat.reduceAdd, Nat.reduceSub, Nat.reduceLT, Nat.reduceMul, Nat.reducePow, Nat.reduceLeDiff, Int.reduceToNat, Int.reduceLE, Int.reduceLT, Int.reducePow, fl_len, (eq_false (by omega) : (((8 : Nat) : Int) < 8) = False), decide_false]
      rw [fl_done]
      refine ⟨_, _, [], ⟨rfl, rfl⟩, ?_⟩
      simp [-List.reduceReplicate, LES, Net.fn, fnL] <;> rfl
end Go.Proofs.YtjakgjelnbpmnaaGreat
