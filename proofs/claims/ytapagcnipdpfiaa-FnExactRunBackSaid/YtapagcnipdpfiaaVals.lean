import Derived.Test.YtapagcnipdpfiaaEngE
import Derived.Test.YtapagcnipdpfiaaFieldM
/- The laws' own helpers over arrays of bytes, ciphers, networks. -/
set_option linter.unusedSimpArgs false
set_option linter.unusedVariables false
namespace Go.Proofs.Ytapagcnipdpfiaa
open Go Go.Vc
set_option maxRecDepth 10000
set_option maxHeartbeats 4000000
theorem fill_stepV {a : List UInt8} {i n : Nat} (h : i < n) (ha : i < a.length) : (a.take i ++ List.replicate (n - i) 0).set i (a.getD i 0) = a.take (i + 1) ++ List.replicate (n - (i + 1)) 0 := by
  have e : a.take (i + 1) = a.take i ++ [a.getD i 0] := by
    rw [List.take_add_one, List.getElem?_eq_getElem ha]
    simp only [Option.toList, List.getD, List.getElem?_eq_getElem ha, Option.getD_some]
  rw [show n - i = (n - (i + 1)) + 1 by omega, List.replicate_succ, List.set_append_right _ _ (by rw [List.length_take]; omega), List.length_take, Nat.min_eq_left (Nat.le_of_lt ha), Nat.sub_self, List.set_cons_zero, e, List.append_assoc]
  rfl
theorem c_laws_toBlock (a : List UInt8) (ha : a.length = 16) : LC Try.prog 11 [.a (bs a)] [] (fun v hp => v = .a (bs a) ∧ hp = []) := by
  refine LC_of (X := XX (fun _ => .nil) (fun _ => []) [25, 33, 34, 61, 62, 82, 87, 112, 119, 141] 0) envOK Try.func11 (by kernel_rfl) (by kernel_rfl) rfl (Nat.le_of_ble_eq_true (by kernel_rfl)) ?_
  simp only [kFun, Try.f11, List.length_nil, List.length_cons, Nat.sub_zero, Nat.reduceSub, Nat.reduceAdd, List.nil_append, List.cons_append, List.replicate_succ, List.replicate_zero]
  simp only [XX, ↓VC, VP, TT, List.getElem?_toArray, Nat.reduceEqDiff, reduceCtorEq, Nat.reduceAdd, Nat.reduceSub, Nat.reduceLT, Nat.reduceMul, Nat.reducePow, Nat.reduceLeDiff, Int.reduceToNat, Int.reduceLE, Int.reduceLT, Int.reducePow]
  refine kLoop_of (fun i : Nat => ([.a (bs a), .p 0 0, .p 1 0, .p 2 0, .c (.int .i64 (i)), .j, .j, .j, .j, .j, .j, .j, .j, .j, .j], [⟨true, bs a⟩, ⟨true, bs (List.replicate 16 0)⟩, ⟨true, bs (a.take i ++ List.replicate (16 - i) 0)⟩])) (fun i => 16 - i) (fun i => i ≤ 16) 0 (by omega) ⟨[0, 1, 2], by simp [-List.reduceReplicate, LES]⟩ ?_
  intro i hi
  have hl : (a.take i ++ List.replicate (16 - i) 0).length = 16 := by simp [ha]; omega
  simp only [↓VC, VP, TT, List.getElem?_toArray, Nat.reduceEqDiff, reduceCtorEq, Nat.reduceAdd, Nat.reduceSub, Nat.reduceLT, Nat.reduceMul, Nat.reducePow, Nat.reduceLeDiff, Int.reduceToNat, Int.reduceLE, Int.reduceLT, Int.reducePow, ha, hl]
  refine ⟨fun h => ⟨by omega, by omega, by omega, by omega, i + 1, by omega, by omega, [0, 1, 2], ?_⟩, fun h => ⟨_, _, [], ⟨rfl, rfl⟩, ?_⟩⟩
  · rw [wrap_i64 (by omega) (by omega), fill_stepV (by omega) (by omega)]
    simp [-List.reduceReplicate, LES]
  · obtain rfl : i = 16 := by omega
    rw [List.take_of_length_le (by omega)]
    simp [-List.reduceReplicate, LES]
theorem c_laws_toHalf (a : List UInt8) (ha : a.length = 8) : LC Try.prog 54 [.a (bs a)] [] (fun v hp => v = .a (bs a) ∧ hp = []) := by
  refine LC_of (X := XX (fun _ => .nil) (fun _ => []) [25, 33, 34, 61, 62, 82, 87, 112, 119, 141] 0) envOK Try.func54 (by kernel_rfl) (by kernel_rfl) rfl (Nat.le_of_ble_eq_true (by kernel_rfl)) ?_
  simp only [kFun, Try.f54, List.length_nil, List.length_cons, Nat.sub_zero, Nat.reduceSub, Nat.reduceAdd, List.nil_append, List.cons_append, List.replicate_succ, List.replicate_zero]
  simp only [XX, ↓VC, VP, TT, List.getElem?_toArray, Nat.reduceEqDiff, reduceCtorEq, Nat.reduceAdd, Nat.reduceSub, Nat.reduceLT, Nat.reduceMul, Nat.reducePow, Nat.reduceLeDiff, Int.reduceToNat, Int.reduceLE, Int.reduceLT, Int.reducePow]
  refine kLoop_of (fun i : Nat => ([.a (bs a), .p 0 0, .p 1 0, .p 2 0, .c (.int .i64 (i)), .j, .j, .j, .j, .j, .j, .j, .j, .j, .j], [⟨true, bs a⟩, ⟨true, bs (List.replicate 8 0)⟩, ⟨true, bs (a.take i ++ List.replicate (8 - i) 0)⟩])) (fun i => 8 - i) (fun i => i ≤ 8) 0 (by omega) ⟨[0, 1, 2], by simp [-List.reduceReplicate, LES]⟩ ?_
  intro i hi
  have hl : (a.take i ++ List.replicate (8 - i) 0).length = 8 := by simp [ha]; omega
  simp only [↓VC, VP, TT, List.getElem?_toArray, Nat.reduceEqDiff, reduceCtorEq, Nat.reduceAdd, Nat.reduceSub, Nat.reduceLT, Nat.reduceMul, Nat.reducePow, Nat.reduceLeDiff, Int.reduceToNat, Int.reduceLE, Int.reduceLT, Int.reducePow, ha, hl]
  refine ⟨fun h => ⟨by omega, by omega, by omega, by omega, i + 1, by omega, by omega, [0, 1, 2], ?_⟩, fun h => ⟨_, _, [], ⟨rfl, rfl⟩, ?_⟩⟩
  · rw [wrap_i64 (by omega) (by omega), fill_stepV (by omega) (by omega)]
    simp [-List.reduceReplicate, LES]
  · obtain rfl : i = 8 := by omega
    rw [List.take_of_length_le (by omega)]
    simp [-List.reduceReplicate, LES]
theorem c_laws_toBox (a : List UInt8) (ha : a.length = 256) : LC Try.prog 52 [.a (bs a)] [] (fun v hp => v = .a (bs a) ∧ hp = []) := by
  refine LC_of (X := XX (fun _ => .nil) (fun _ => []) [25, 33, 34, 61, 62, 82, 87, 112, 119, 141] 0) envOK Try.func52 (by kernel_rfl) (by kernel_rfl) rfl (Nat.le_of_ble_eq_true (by kernel_rfl)) ?_
  simp only [kFun, Try.f52, List.length_nil, List.length_cons, Nat.sub_zero, Nat.reduceSub, Nat.reduceAdd, List.nil_append, List.cons_append, List.replicate_succ, List.replicate_zero]
  simp only [XX, ↓VC, VP, TT, List.getElem?_toArray, Nat.reduceEqDiff, reduceCtorEq, Nat.reduceAdd, Nat.reduceSub, Nat.reduceLT, Nat.reduceMul, Nat.reducePow, Nat.reduceLeDiff, Int.reduceToNat, Int.reduceLE, Int.reduceLT, Int.reducePow]
  refine kLoop_of (fun i : Nat => ([.a (bs a), .p 0 0, .p 1 0, .p 2 0, .c (.int .i64 (i)), .j, .j, .j, .j, .j, .j, .j, .j, .j, .j], [⟨true, bs a⟩, ⟨true, bs (List.replicate 256 0)⟩, ⟨true, bs (a.take i ++ List.replicate (256 - i) 0)⟩])) (fun i => 256 - i) (fun i => i ≤ 256) 0 (by omega) ⟨[0, 1, 2], by simp [-List.reduceReplicate, LES]⟩ ?_
  intro i hi
  have hl : (a.take i ++ List.replicate (256 - i) 0).length = 256 := by simp [ha]; omega
  simp only [↓VC, VP, TT, List.getElem?_toArray, Nat.reduceEqDiff, reduceCtorEq, Nat.reduceAdd, Nat.reduceSub, Nat.reduceLT, Nat.reduceMul, Nat.reducePow, Nat.reduceLeDiff, Int.reduceToNat, Int.reduceLE, Int.reduceLT, Int.reducePow, ha, hl]
  refine ⟨fun h => ⟨by omega, by omega, by omega, by omega, i + 1, by omega, by omega, [0, 1, 2], ?_⟩, fun h => ⟨_, _, [], ⟨rfl, rfl⟩, ?_⟩⟩
  · rw [wrap_i64 (by omega) (by omega), fill_stepV (by omega) (by omega)]
    simp [-List.reduceReplicate, LES]
  · obtain rfl : i = 256 := by omega
    rw [List.take_of_length_le (by omega)]
    simp [-List.reduceReplicate, LES]
theorem c_laws_toByteA4 (a : List UInt8) (ha : a.length = 4) : LC Try.prog 100 [.a (bs a)] [] (fun v hp => v = .a (bs a) ∧ hp = []) := by
  refine LC_of (X := XX (fun _ => .nil) (fun _ => []) [25, 33, 34, 61, 62, 82, 87, 112, 119, 141] 0) envOK Try.func100 (by kernel_rfl) (by kernel_rfl) rfl (Nat.le_of_ble_eq_true (by kernel_rfl)) ?_
  simp only [kFun, Try.f100, List.length_nil, List.length_cons, Nat.sub_zero, Nat.reduceSub, Nat.reduceAdd, List.nil_append, List.cons_append, List.replicate_succ, List.replicate_zero]
  simp only [XX, ↓VC, VP, TT, List.getElem?_toArray, Nat.reduceEqDiff, reduceCtorEq, Nat.reduceAdd, Nat.reduceSub, Nat.reduceLT, Nat.reduceMul, Nat.reducePow, Nat.reduceLeDiff, Int.reduceToNat, Int.reduceLE, Int.reduceLT, Int.reducePow]
  refine kLoop_of (fun i : Nat => ([.a (bs a), .p 0 0, .p 1 0, .p 2 0, .c (.int .i64 (i)), .j, .j, .j, .j, .j, .j, .j, .j, .j, .j], [⟨true, bs a⟩, ⟨true, bs (List.replicate 4 0)⟩, ⟨true, bs (a.take i ++ List.replicate (4 - i) 0)⟩])) (fun i => 4 - i) (fun i => i ≤ 4) 0 (by omega) ⟨[0, 1, 2], by simp [-List.reduceReplicate, LES]⟩ ?_
  intro i hi
  have hl : (a.take i ++ List.replicate (4 - i) 0).length = 4 := by simp [ha]; omega
  simp only [↓VC, VP, TT, List.getElem?_toArray, Nat.reduceEqDiff, reduceCtorEq, Nat.reduceAdd, Nat.reduceSub, Nat.reduceLT, Nat.reduceMul, Nat.reducePow, Nat.reduceLeDiff, Int.reduceToNat, Int.reduceLE, Int.reduceLT, Int.reducePow, ha, hl]
  refine ⟨fun h => ⟨by omega, by omega, by omega, by omega, i + 1, by omega, by omega, [0, 1, 2], ?_⟩, fun h => ⟨_, _, [], ⟨rfl, rfl⟩, ?_⟩⟩
  · rw [wrap_i64 (by omega) (by omega), fill_stepV (by omega) (by omega)]
    simp [-List.reduceReplicate, LES]
  · obtain rfl : i = 4 := by omega
    rw [List.take_of_length_le (by omega)]
    simp [-List.reduceReplicate, LES]
theorem c_laws_eqBlock (a b : List UInt8) (ha : a.length = 16) (hb : b.length = 16) : LC Try.prog 13 [.a (bs a), .a (bs b)] [] (fun v hp => v = .c (.bool (a == b)) ∧ hp = []) := by
  refine LC_of (X := XX (fun | 4 => .one 0 (.one 1 (.one 2 (.one 3 (.one 4 (.one 5 (.one 6 .nil)))))) | _ => .nil) (fun _ => []) [25, 33, 34, 61, 62, 82, 87, 112, 119, 141] 0) envOK Try.func13 (by kernel_rfl) (by kernel_rfl) rfl (Nat.le_of_ble_eq_true (by kernel_rfl)) ?_
  simp only [kFun, Try.f13, List.length_nil, List.length_cons, Nat.sub_zero, Nat.reduceSub, Nat.reduceAdd, List.nil_append, List.cons_append, List.replicate_succ, List.replicate_zero]
  simp only [XX, ↓VC, VP, TT, List.getElem?_toArray, Nat.reduceEqDiff, reduceCtorEq, Nat.reduceAdd, Nat.reduceSub, Nat.reduceLT, Nat.reduceMul, Nat.reducePow, Nat.reduceLeDiff, Int.reduceToNat, Int.reduceLE, Int.reduceLT, Int.reducePow]
  refine kLoop_of (fun i : Nat => ([.a (bs a), .a (bs b), .p 0 0, .p 1 0, .j, .c (.int .i64 (i)), .j, .j, .j, .j, .j, .j, .j, .j, .j, .j, .j], [⟨true, bs a⟩, ⟨true, bs b⟩])) (fun i => 16 - i) (fun i => i ≤ 16 ∧ a.take i = b.take i) 0 (by simp) ⟨[0, 1], by simp [-List.reduceReplicate, LES]⟩ ?_
  rintro i ⟨hi, hab⟩
  simp only [↓VC, VP, TT, List.getElem?_toArray, Nat.reduceEqDiff, reduceCtorEq, Nat.reduceAdd, Nat.reduceSub, Nat.reduceLT, Nat.reduceMul, Nat.reducePow, Nat.reduceLeDiff, Int.reduceToNat, Int.reduceLE, Int.reduceLT, Int.reducePow, ha, hb]
  refine ⟨fun h => ⟨by omega, by omega, by omega, by omega, fun hne => ⟨_, _, [], ⟨rfl, rfl⟩, ?_⟩, fun he => ⟨i + 1, ⟨by omega, take_succ_eq (by omega) (by omega) hab ?_⟩, by omega, [0, 1], ?_⟩⟩, fun h => ⟨_, _, [], ⟨rfl, rfl⟩, ?_⟩⟩
  · rw [bne_iff_ne] at hne
    rw [ne_of_getD (a := a) (b := b) (i := i) (fun e => hne (by rw [e]))]
    simp [-List.reduceReplicate, LES]
  · exact UInt8.toNat_inj.1 (by have := bne_eq_false_iff_eq.1 he; omega)
  · rw [wrap_i64 (by omega) (by omega)]
    simp [-List.reduceReplicate, LES]
  · obtain rfl : i = 16 := by omega
    rw [List.take_of_length_le (by omega), List.take_of_length_le (by omega)] at hab
    subst hab
    simp [-List.reduceReplicate, LES]
theorem c_laws_eqHalf (a b : List UInt8) (ha : a.length = 8) (hb : b.length = 8) : LC Try.prog 59 [.a (bs a), .a (bs b)] [] (fun v hp => v = .c (.bool (a == b)) ∧ hp = []) := by
  refine LC_of (X := XX (fun | 4 => .one 0 (.one 1 (.one 2 (.one 3 (.one 4 (.one 5 (.one 6 .nil)))))) | _ => .nil) (fun _ => []) [25, 33, 34, 61, 62, 82, 87, 112, 119, 141] 0) envOK Try.func59 (by kernel_rfl) (by kernel_rfl) rfl (Nat.le_of_ble_eq_true (by kernel_rfl)) ?_
  simp only [kFun, Try.f59, List.length_nil, List.length_cons, Nat.sub_zero, Nat.reduceSub, Nat.reduceAdd, List.nil_append, List.cons_append, List.replicate_succ, List.replicate_zero]
  simp only [XX, ↓VC, VP, TT, List.getElem?_toArray, Nat.reduceEqDiff, reduceCtorEq, Nat.reduceAdd, Nat.reduceSub, Nat.reduceLT, Nat.reduceMul, Nat.reducePow, Nat.reduceLeDiff, Int.reduceToNat, Int.reduceLE, Int.reduceLT, Int.reducePow]
  refine kLoop_of (fun i : Nat => ([.a (bs a), .a (bs b), .p 0 0, .p 1 0, .j, .c (.int .i64 (i)), .j, .j, .j, .j, .j, .j, .j, .j, .j, .j, .j], [⟨true, bs a⟩, ⟨true, bs b⟩])) (fun i => 8 - i) (fun i => i ≤ 8 ∧ a.take i = b.take i) 0 (by simp) ⟨[0, 1], by simp [-List.reduceReplicate, LES]⟩ ?_
  rintro i ⟨hi, hab⟩
  simp only [↓VC, VP, TT, List.getElem?_toArray, Nat.reduceEqDiff, reduceCtorEq, Nat.reduceAdd, Nat.reduceSub, Nat.reduceLT, Nat.reduceMul, Nat.reducePow, Nat.reduceLeDiff, Int.reduceToNat, Int.reduceLE, Int.reduceLT, Int.reducePow, ha, hb]
  refine ⟨fun h => ⟨by omega, by omega, by omega, by omega, fun hne => ⟨_, _, [], ⟨rfl, rfl⟩, ?_⟩, fun he => ⟨i + 1, ⟨by omega, take_succ_eq (by omega) (by omega) hab ?_⟩, by omega, [0, 1], ?_⟩⟩, fun h => ⟨_, _, [], ⟨rfl, rfl⟩, ?_⟩⟩
  · rw [bne_iff_ne] at hne
    rw [ne_of_getD (a := a) (b := b) (i := i) (fun e => hne (by rw [e]))]
    simp [-List.reduceReplicate, LES]
  · exact UInt8.toNat_inj.1 (by have := bne_eq_false_iff_eq.1 he; omega)
  · rw [wrap_i64 (by omega) (by omega)]
    simp [-List.reduceReplicate, LES]
  · obtain rfl : i = 8 := by omega
    rw [List.take_of_length_le (by omega), List.take_of_length_le (by omega)] at hab
    subst hab
    simp [-List.reduceReplicate, LES]
theorem splB_fillW {w : Nat} {D : List UInt8} {i n : Nat} (hD : D.length = w * n) (h : i < n) : splB (D.take (w * i) ++ List.replicate (w * (n - i)) 0) (i * w) ((D.drop (i * w)).take w) = D.take (w * (i + 1)) ++ List.replicate (w * (n - (i + 1))) 0 := by
  have e1 : w * n = w * i + w * (n - i) := by rw [← Nat.mul_add]; congr 1; omega
  have e2 : w * (n - i) = w + w * (n - (i + 1)) := by rw [show n - i = (n - (i + 1)) + 1 by omega, Nat.mul_succ]; omega
  have hl : (D.take (w * i)).length = w * i := by rw [List.length_take]; omega
  have hx : ((D.drop (i * w)).take w).length = w := by rw [List.length_take, List.length_drop, Nat.mul_comm i w]; omega
  rw [Nat.mul_comm i w] at hx ⊢
  have t1 : (D.take (w * i) ++ List.replicate (w * (n - i)) (0 : UInt8)).take (w * i) = D.take (w * i) := by rw [List.take_append_of_le_length (Nat.le_of_eq hl.symm), List.take_of_length_le (Nat.le_of_eq hl)]
  have t2 : (D.take (w * i) ++ List.replicate (w * (n - i)) (0 : UInt8)).drop (w * i + w) = List.replicate (w * (n - (i + 1))) 0 := by
    rw [List.drop_append, List.drop_eq_nil_of_le (by rw [hl]; omega), hl, List.drop_replicate, List.nil_append]; congr 1; omega
  unfold splB
  rw [hx, t1, t2, Nat.mul_succ, List.take_add]
theorem c_laws_toMatrix (a : List UInt8) (ha : a.length = 16) : LC Try.prog 53 [.a (bs a)] [] (fun v hp => v = .a (bs a) ∧ hp = []) := by
  refine LC_of (X := XX (fun _ => .nil) (fun _ => []) [25, 33, 34, 61, 62, 82, 87, 112, 119, 141] 0) envOK Try.func53 (by kernel_rfl) (by kernel_rfl) rfl (Nat.le_of_ble_eq_true (by kernel_rfl)) ?_
  simp only [kFun, Try.f53, List.length_nil, List.length_cons, Nat.sub_zero, Nat.reduceSub, Nat.reduceAdd, List.nil_append, List.cons_append, List.replicate_succ, List.replicate_zero]
  simp only [XX, ↓VC, VP, TT, List.getElem?_toArray, Nat.reduceEqDiff, reduceCtorEq, Nat.reduceAdd, Nat.reduceSub, Nat.reduceLT, Nat.reduceMul, Nat.reducePow, Nat.reduceLeDiff, Int.reduceToNat, Int.reduceLE, Int.reduceLT, Int.reducePow]
  refine kLoop_of (fun i : Nat => ([.a (bs a), .p 0 0, .p 1 0, .p 2 0, .c (.int .i64 (i)), .j, .j, .j, .j, .j, .j, .j, .j, .j, .j, .j], [⟨true, bs a⟩, ⟨true, bs (List.replicate 16 0)⟩, ⟨true, bs (a.take (4 * i) ++ List.replicate (4 * (4 - i)) 0)⟩])) (fun i => 4 - i) (fun i => i ≤ 4) 0 (by omega) ⟨[0, 1, 2], by simp [-List.reduceReplicate, LES]⟩ ?_
  intro i hi
  have hl : (a.take (4 * i) ++ List.replicate (4 * (4 - i)) 0).length = 16 := by simp [ha]; omega
  rcases Nat.lt_or_ge i 4 with h | h
  · have hr : ((a.drop (i * 4)).take 4).length = 4 := by rw [List.length_take, List.length_drop]; omega
    simp only [↓VC, VP, TT, List.getElem?_toArray, Nat.reduceEqDiff, reduceCtorEq, Nat.reduceAdd, Nat.reduceSub, Nat.reduceLT, Nat.reduceMul, Nat.reducePow, Nat.reduceLeDiff, Int.reduceToNat, Int.reduceLE, Int.reduceLT, Int.reducePow, h, (eq_true (by omega) : ((i : Int) < 4) = True), (eq_true (by omega) : ((i : Int) < ((4 : Nat) : Int)) = True), wrap_i64 (n := (i : Int) + 1) (by omega) (by omega), decide_true, ha, hl, h, (eq_true (by omega) : (i * 4 + 4 ≤ 16) = True)]
    refine kCall_val (c_laws_toByteA4 ((a.drop (i * 4)).take 4) hr) (by rfl) [] (by simp [CALL]) (by simp [CALL, cellsAt]) (by simp [CALL]) (by simp [okL_bs]) ?_
    simp only [CALL, ↓VC, VP, TT, List.getElem?_toArray, Nat.reduceEqDiff, reduceCtorEq, Nat.reduceAdd, Nat.reduceSub, Nat.reduceLT, Nat.reduceMul, Nat.reducePow, Nat.reduceLeDiff, Int.reduceToNat, Int.reduceLE, Int.reduceLT, Int.reducePow, hl, hr, h, (eq_true (by omega) : ((i : Int) < ((4 : Nat) : Int)) = True), (eq_true (by omega) : (i * 4 + 4 ≤ 16) = True)]
    refine ⟨i + 1, by omega, by omega, [0, 1, 2], ?_⟩
    try rw [wrap_i64 (by omega) (by omega)]
    rw [splB_fillW (n := 4) ha h]
    simp [-List.reduceReplicate, LES]
  · obtain rfl : i = 4 := by omega
    rw [List.take_of_length_le (by omega)] at hl ⊢
    simp only [↓VC, VP, TT, List.getElem?_toArray, Nat.reduceEqDiff, reduceCtorEq, Nat.reduceAdd, Nat.reduceSub, Nat.reduceLT, Nat.reduceMul, Nat.reducePow, Nat.reduceLeDiff, Int.reduceToNat, Int.reduceLE, Int.reduceLT, Int.reducePow, hl, ha, (eq_false (by omega) : (((4 : Nat) : Int) < 4) = False), decide_false, show ((4 : Int) < 4) = False from eq_false (by decide), decide_false]
    refine ⟨_, _, [], ⟨rfl, rfl⟩, ?_⟩; simp [-List.reduceReplicate, LES]
theorem vPut_mid {pre mid post vs : List V} {o : Nat} (ho : o = pre.length) (hv : vs.length = mid.length) {k : List V → Prop} : vPut (pre ++ (mid ++ post)) o vs k = k (pre ++ (vs ++ post)) := by
  subst ho
  unfold vPut
  have e : splice (pre ++ (mid ++ post)) pre.length vs = pre ++ (vs ++ post) := by
    unfold splice
    rw [List.take_left, hv, ← List.append_assoc pre mid post, ← List.length_append, List.drop_left, List.append_assoc]
  rw [e]
  apply propext
  constructor
  · exact fun h => h.2
  · intro h; exact ⟨by simp only [List.length_append]; omega, h⟩
section
variable {f r : Int} {box A pl w : List UInt8} {kl : List V → Prop}
theorem cipw_field {x : Int} : vPut (cipC f box A pl r) 0 [.c (.int .i64 x)] kl = kl (cipC x box A pl r) := vPut_mid (pre := []) (mid := [.c (.int .i64 f)]) (vs := [.c (.int .i64 x)]) rfl rfl
theorem cipw_box (hb : box.length = 256) (hw : w.length = 256) : vPut (cipC f box A pl r) 1 (bs w) kl = kl (cipC f w A pl r) := vPut_mid (pre := [.c (.int .i64 f)]) (mid := bs box) rfl (by rw [bs_length, bs_length, hb, hw])
theorem cipw_mix (hb : box.length = 256) (hA : A.length = 16) (hw : w.length = 16) : vPut (cipC f box A pl r) 257 (bs w) kl = kl (cipC f box w pl r) := vPut_mid (pre := .c (.int .i64 f) :: bs box) (mid := bs A) (by rw [List.length_cons, bs_length, hb]) (by rw [bs_length, bs_length, hA, hw])
theorem cipw_pl (hb : box.length = 256) (hA : A.length = 16) (hp : pl.length = 16) (hw : w.length = 16) : vPut (cipC f box A pl r) 273 (bs w) kl = kl (cipC f box A w r) := by
  have e : ∀ x : List UInt8, cipC f box A x r = (.c (.int .i64 f) :: (bs box ++ bs A)) ++ (bs x ++ [.c (.int .i64 r)]) := fun x => by simp [cipC]
  rw [e, e]
  refine vPut_mid ?_ ?_
  · rw [List.length_cons, List.length_append, bs_length, bs_length, hb, hA]
  · rw [bs_length, bs_length, hp, hw]
theorem cipw_rd {x : Int} (hb : box.length = 256) (hA : A.length = 16) (hp : pl.length = 16) : vPut (cipC f box A pl r) 289 [.c (.int .i64 x)] kl = kl (cipC f box A pl x) := by
  have e : ∀ x : Int, cipC f box A pl x = (.c (.int .i64 f) :: (bs box ++ (bs A ++ bs pl))) ++ ([.c (.int .i64 x)] ++ []) := fun x => by simp [cipC]
  rw [e, e]
  refine vPut_mid ?_ ?_
  · rw [List.length_cons, List.length_append, List.length_append, bs_length, bs_length, bs_length, hb, hA, hp]
  · rfl
theorem cip_zero {r0 : Int} : V.c (.int .i64 f) :: (bs (List.replicate 256 0) ++ (bs (List.replicate 16 0) ++ (bs (List.replicate 16 0) ++ [.c (.int .i64 r0)]))) = cipC f (List.replicate 256 0) (List.replicate 16 0) (List.replicate 16 0) r0 := rfl
theorem zl256 : (List.replicate 256 (0 : UInt8)).length = 256 := List.length_replicate
theorem zl16 : (List.replicate 16 (0 : UInt8)).length = 16 := List.length_replicate
end
/-- A network's cells. -/
def netC (f : Int) (box A : List UInt8) (k r : Int) : List V := .c (.int .i64 f) :: (bs box ++ (bs A ++ [.c (.int .i64 k), .c (.int .i64 r)]))
theorem netC_len {f k r : Int} {box A : List UInt8} (hb : box.length = 256) (hA : A.length = 16) : (netC f box A k r).length = 275 := by simp [netC, bs_length, hb, hA]
section
variable {f kd r : Int} {box A w : List UInt8} {k : V → Prop} {kl : List V → Prop}
theorem net_field : vGet (netC f box A kd r) 0 k = k (.c (.int .i64 f)) := by unfold netC; rw [vGet_zero]
theorem net_box (hb : box.length = 256) : vSub (netC f box A kd r) 1 256 k = k (.a (bs box)) := by
  unfold netC; rw [show (1 : Nat) = 0 + 1 from rfl, vSub_succ, vSub_app0 (by rw [bs_length, hb])]
theorem net_mix (hb : box.length = 256) (hA : A.length = 16) : vSub (netC f box A kd r) 257 16 k = k (.a (bs A)) := by
  unfold netC
  rw [show (257 : Nat) = 256 + 1 from rfl, vSub_succ, vSub_appR (by rw [bs_length, hb]; exact Nat.le_refl _), bs_length, hb, vSub_app0 (by rw [bs_length, hA])]
theorem net_kind (hb : box.length = 256) (hA : A.length = 16) : vGet (netC f box A kd r) 273 k = k (.c (.int .i64 kd)) := by
  unfold netC
  rw [show (273 : Nat) = 272 + 1 from rfl, vGet_succ, vGet_appR (by rw [bs_length, hb]; omega), bs_length, hb, vGet_appR (by rw [bs_length, hA]; omega), bs_length, hA, vGet_zero]
theorem net_rd (hb : box.length = 256) (hA : A.length = 16) : vGet (netC f box A kd r) 274 k = k (.c (.int .i64 r)) := by
  unfold netC
  rw [show (274 : Nat) = 273 + 1 from rfl, vGet_succ, vGet_appR (by rw [bs_length, hb]; omega), bs_length, hb, vGet_appR (by rw [bs_length, hA]; omega), bs_length, hA, show 273 - 256 - 16 = 0 + 1 from rfl, vGet_succ, vGet_zero]
theorem net_all {n : Nat} (hb : box.length = 256) (hA : A.length = 16) (hn : n = 275) : vSub (netC f box A kd r) 0 n k = k (.a (netC f box A kd r)) := vSub_all (by rw [netC_len hb hA, hn])
theorem renL_net (σ : List Nat) : V.renL σ (netC f box A kd r) = netC f box A kd r := by simp [netC, V.renL, V.ren, renL_app, renL_bs]
theorem instL_net (sub : List (Nat × Nat)) (N : Nat) : V.instL sub N (netC f box A kd r) = netC f box A kd r := by simp [netC, V.instL, V.inst, instL_app, instL_bs]
theorem okL_net (N : Nat) : okL N (netC f box A kd r) := by simp [netC, okL, okV, okL_app, okL_bs]
theorem netw_field {x : Int} : vPut (netC f box A kd r) 0 [.c (.int .i64 x)] kl = kl (netC x box A kd r) := vPut_mid (pre := []) (mid := [.c (.int .i64 f)]) (vs := [.c (.int .i64 x)]) rfl rfl
theorem netw_box (hb : box.length = 256) (hw : w.length = 256) : vPut (netC f box A kd r) 1 (bs w) kl = kl (netC f w A kd r) := vPut_mid (pre := [.c (.int .i64 f)]) (mid := bs box) rfl (by rw [bs_length, bs_length, hb, hw])
theorem netw_mix (hb : box.length = 256) (hA : A.length = 16) (hw : w.length = 16) : vPut (netC f box A kd r) 257 (bs w) kl = kl (netC f box w kd r) := vPut_mid (pre := .c (.int .i64 f) :: bs box) (mid := bs A) (by rw [List.length_cons, bs_length, hb]) (by rw [bs_length, bs_length, hA, hw])
theorem netw_kind {x : Int} (hb : box.length = 256) (hA : A.length = 16) : vPut (netC f box A kd r) 273 [.c (.int .i64 x)] kl = kl (netC f box A x r) := by
  have e : ∀ x : Int, netC f box A x r = (.c (.int .i64 f) :: (bs box ++ bs A)) ++ ([.c (.int .i64 x)] ++ [.c (.int .i64 r)]) := fun x => by simp [netC]
  rw [e, e]
  refine vPut_mid ?_ ?_
  · rw [List.length_cons, List.length_append, bs_length, bs_length, hb, hA]
  · rfl
theorem netw_rd {x : Int} (hb : box.length = 256) (hA : A.length = 16) : vPut (netC f box A kd r) 274 [.c (.int .i64 x)] kl = kl (netC f box A kd x) := by
  have e : ∀ x : Int, netC f box A kd x = (.c (.int .i64 f) :: (bs box ++ (bs A ++ [.c (.int .i64 kd)]))) ++ ([.c (.int .i64 x)] ++ []) := fun x => by simp [netC]
  rw [e, e]
  refine vPut_mid ?_ ?_
  · rw [List.length_cons, List.length_append, List.length_append, bs_length, bs_length, hb, hA]; rfl
  · rfl
theorem net_zero {r0 k0 : Int} : V.c (.int .i64 f) :: (bs (List.replicate 256 0) ++ (bs (List.replicate 16 0) ++ (.c (.int .i64 k0) :: (.c (.int .i64 r0) :: [])))) = netC f (List.replicate 256 0) (List.replicate 16 0) k0 r0 := rfl
end
theorem c_laws_toNetwork (z k n : Int) {box A : List UInt8} (hb : box.length = 256) (hA : A.length = 16) : LC Try.prog 9 [.a (netC z box A k n)] [] (fun v hp => v = .a (netC z box A k n) ∧ hp = []) := by
  refine LC_of (X := XX (fun _ => .nil) (fun _ => []) [25, 33, 34, 61, 62, 82, 87, 112, 119, 141] 0) envOK Try.func9 (by kernel_rfl) (by kernel_rfl) rfl (Nat.le_of_ble_eq_true (by kernel_rfl)) ?_
  simp only [kFun, Try.f9, List.length_nil, List.length_cons, Nat.sub_zero, Nat.reduceSub, Nat.reduceAdd, List.nil_append, List.cons_append, List.replicate_succ, List.replicate_zero]
  simp only [XX, ↓VC, VP, TT, List.getElem?_toArray, Nat.reduceEqDiff, reduceCtorEq, Nat.reduceAdd, Nat.reduceSub, Nat.reduceLT, Nat.reduceMul, Nat.reducePow, Nat.reduceLeDiff, Int.reduceToNat, Int.reduceLE, Int.reduceLT, Int.reducePow, net_zero, netC_len hb hA, ↓net_all hb hA, ↓net_field, ↓net_box hb, ↓net_mix hb hA, ↓net_kind hb hA, ↓net_rd hb hA, ↓netw_field]
  refine kCall_val (c_laws_toBox box hb) (by rfl) [] (by simp [CALL]) (by simp [CALL, cellsAt]) (by simp [CALL]) (by simp [okL_bs]) ?_
  simp only [CALL, ↓VC, VP, TT, List.getElem?_toArray, Nat.reduceEqDiff, reduceCtorEq, Nat.reduceAdd, Nat.reduceSub, Nat.reduceLT, Nat.reduceMul, Nat.reducePow, Nat.reduceLeDiff, Int.reduceToNat, Int.reduceLE, Int.reduceLT, Int.reducePow, hb, ↓netw_box zl256 hb, ↓net_box hb, ↓net_mix hb hA, ↓net_kind hb hA, ↓net_rd hb hA]
  refine kCall_val (c_laws_toMatrix A hA) (by rfl) [] (by simp [CALL]) (by simp [CALL, cellsAt]) (by simp [CALL]) (by simp [okL_bs]) ?_
  simp only [CALL, ↓VC, VP, TT, List.getElem?_toArray, Nat.reduceEqDiff, reduceCtorEq, Nat.reduceAdd, Nat.reduceSub, Nat.reduceLT, Nat.reduceMul, Nat.reducePow, Nat.reduceLeDiff, Int.reduceToNat, Int.reduceLE, Int.reduceLT, Int.reducePow, hA, ↓netw_mix hb zl16 hA, ↓net_mix hb hA, ↓net_kind hb hA, ↓net_rd hb hA, ↓netw_kind hb hA, ↓netw_rd hb hA, ↓net_all hb hA, netC_len hb hA, netC_len zl256 zl16]
  refine ⟨_, _, [], ⟨rfl, rfl⟩, ?_⟩; simp [-List.reduceReplicate, LES, renL_net, okL_net]
end Go.Proofs.Ytapagcnipdpfiaa
