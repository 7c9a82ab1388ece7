import Derived.Test.YtapagcnipdpfiaaDigS
/- The laws' marks over slices of digests. -/
set_option linter.unusedSimpArgs false
set_option linter.unusedVariables false
namespace Go.Proofs.Ytapagcnipdpfiaa
open Go Go.Vc
set_option maxRecDepth 10000
set_option maxHeartbeats 4000000
theorem c_laws_markDigestS (n c r k : Nat) (D : List UInt8) (hD : D.length = 32 * n) (hc : n ≤ c) (hm : n ≤ 1048576) (hk : k ≤ 4294967296) : LC Try.prog 33 [.s 0 0 n c, .c (.int .i64 (k))] [⟨true, bs D ++ List.replicate r .j⟩]
    (RetM (fun _ : Unit => True) fun _ => (.c (.int .i64 (((k + 32 * n : Nat) : Int))), [⟨true, bs (markL k (32 * n)) ++ List.replicate r .j⟩], [])) := by
  refine LC_of (X := XX (fun _ => .nil) (fun _ => []) [25, 33, 34, 61, 62, 82, 87, 112, 119, 141] 1) envOK Try.func33 (by kernel_rfl) (by kernel_rfl) rfl (Nat.le_of_ble_eq_true (by kernel_rfl)) ?_
  simp only [kFun, Try.f33, List.length_nil, List.length_cons, Nat.sub_zero, Nat.reduceSub, Nat.reduceAdd, List.nil_append, List.cons_append, List.replicate_succ, List.replicate_zero]
  simp only [XX, ↓VC, VP, TT, List.getElem?_toArray, Nat.reduceEqDiff, reduceCtorEq, Nat.reduceAdd, Nat.reduceSub, Nat.reduceLT, Nat.reduceMul, Nat.reducePow, Nat.reduceLeDiff, Int.reduceToNat, Int.reduceLE, Int.reduceLT, Int.reducePow]
  refine kLoop_of (fun i : Nat => ([.s 0 0 n c, .c (.int .i64 (((k + 32 * i : Nat) : Int))), .j, .j, .j, .c (.int .i64 (i)), .j, .j, .j, .j, .j, .j, .j, .j, .j, .j, .j, .j, .j, .j, .j, .j, .j, .j, .j, .j, .j], [⟨true, bs (markL k (32 * i) ++ D.drop (32 * i)) ++ List.replicate r .j⟩])) (fun i => n - i) (fun i => i ≤ n) 0 (by omega) ⟨[0], by simp [-List.reduceReplicate, LES, markL]⟩ ?_
  intro i hi
  by_cases hlt : i < n
  · simp only [↓VC, VP, TT, List.getElem?_toArray, Nat.reduceEqDiff, reduceCtorEq, Nat.reduceAdd, Nat.reduceSub, Nat.reduceLT, Nat.reduceMul, Nat.reducePow, Nat.reduceLeDiff, Int.reduceToNat, Int.reduceLE, Int.reduceLT, Int.reducePow, hlt, (eq_true (by omega) : ((i : Int) < n) = True), (eq_true (by omega) : ((i : Int) < ((n : Nat) : Int)) = True), wrap_i64 (n := (i : Int) + 1) (by omega) (by omega), decide_true]
    refine kLoop_of (fun j : Nat => ([.s 0 0 n c, .c (.int .i64 (((k + (32 * i + j) : Nat) : Int))), .j, .j, .j, .c (.int .i64 (i)), .c (.int .i64 (j)), .j, .j, .j, .j, .j, .j, .j, .j, .j, .j, .j, .j, .j, .j, .j, .j, .j, .j, .j, .j], [⟨true, bs (markL k (32 * i + j) ++ D.drop (32 * i + j)) ++ List.replicate r .j⟩])) (fun j => 32 - j) (fun j => j ≤ 32) 0 (by omega) ⟨[0], by simp [-List.reduceReplicate, LES]⟩ ?_
    intro j hj
    have hl : (markL k (32 * i + j) ++ D.drop (32 * i + j)).length = 32 * n := by simp [markL_len]; omega
    by_cases hlt2 : j < 32
    · simp only [↓VC, VP, TT, List.getElem?_toArray, Nat.reduceEqDiff, reduceCtorEq, Nat.reduceAdd, Nat.reduceSub, Nat.reduceLT, Nat.reduceMul, Nat.reducePow, Nat.reduceLeDiff, Int.reduceToNat, Int.reduceLE, Int.reduceLT, Int.reducePow, hl, hlt2, (eq_true (by omega) : ((j : Int) < 32) = True), (eq_true (by omega) : ((j : Int) < ((32 : Nat) : Int)) = True), wrap_i64 (n := (j : Int) + 1) (by omega) (by omega), decide_true, (show i * 32 + j < 32 * n by omega), ↓vPut_room]
      refine ⟨by omega, j + 1, by omega, by omega, [0], ?_⟩
      rw [wrap_i64 (n := ((k + (32 * i + j) : Nat) : Int) + 1) (by omega) (by omega), show i * 32 + j = 32 * i + j by omega, mark_step (by omega), show ((k + (32 * i + j) : Nat) : Int) + 1 = ((k + (32 * i + (j + 1)) : Nat) : Int) by omega]
      simp [-List.reduceReplicate, LES, Nat.add_assoc]
    · obtain rfl : j = 32 := by omega
      simp only [↓VC, VP, TT, List.getElem?_toArray, Nat.reduceEqDiff, reduceCtorEq, Nat.reduceAdd, Nat.reduceSub, Nat.reduceLT, Nat.reduceMul, Nat.reducePow, Nat.reduceLeDiff, Int.reduceToNat, Int.reduceLE, Int.reduceLT, Int.reducePow, hl]
      refine ⟨fun h => absurd h (by simp), fun _ => ⟨i + 1, by omega, by omega, [0], ?_⟩⟩
      rw [wrap_i64 (n := (i : Int) + 1) (by omega) (by omega), show 32 * i + 32 = 32 * (i + 1) by omega]
      simp [-List.reduceReplicate, LES]
  · obtain rfl : i = n := by omega
    simp only [↓VC, VP, TT, List.getElem?_toArray, Nat.reduceEqDiff, reduceCtorEq, Nat.reduceAdd, Nat.reduceSub, Nat.reduceLT, Nat.reduceMul, Nat.reducePow, Nat.reduceLeDiff, Int.reduceToNat, Int.reduceLE, Int.reduceLT, Int.reducePow, (eq_false (by omega) : ((i : Int) < (i : Int)) = False), decide_false]
    refine ⟨_, _, [0], ⟨(), trivial, rfl, rfl⟩, ?_⟩
    rw [List.drop_eq_nil_of_le (by omega), List.append_nil]
    simp [-List.reduceReplicate, LES]
theorem c_laws_heldDigestS (n c k : Nat) (hc : n ≤ c) (hm : n ≤ 1048576) (hk : k ≤ 4294967296) : LC Try.prog 83 [.s 0 0 n c, .c (.int .i64 (k))] [⟨false, bs (markL k (32 * n))⟩]
    (fun v hp => v = .c (.int .i64 (((k + 32 * n : Nat) : Int))) ∧ hp = [⟨false, bs (markL k (32 * n))⟩]) := by
  refine LC_of (X := XX (fun _ => .nil) (fun _ => []) [25, 33, 34, 61, 62, 82, 87, 112, 119, 141] 1) envOK Try.func83 (by kernel_rfl) (by kernel_rfl) rfl (Nat.le_of_ble_eq_true (by kernel_rfl)) ?_
  simp only [kFun, Try.f83, List.length_nil, List.length_cons, Nat.sub_zero, Nat.reduceSub, Nat.reduceAdd, List.nil_append, List.cons_append, List.replicate_succ, List.replicate_zero]
  simp only [XX, ↓VC, VP, TT, List.getElem?_toArray, Nat.reduceEqDiff, reduceCtorEq, Nat.reduceAdd, Nat.reduceSub, Nat.reduceLT, Nat.reduceMul, Nat.reducePow, Nat.reduceLeDiff, Int.reduceToNat, Int.reduceLE, Int.reduceLT, Int.reducePow]
  refine kLoop_of (fun i : Nat => ([.s 0 0 n c, .c (.int .i64 (((k + 32 * i : Nat) : Int))), .j, .j, .j, .c (.int .i64 (i)), .j, .j, .j, .j, .j, .j, .j, .j, .j, .j, .j, .j, .j, .j, .j, .j, .j, .j, .j, .j, .j, .j, .j], [⟨false, bs (markL k (32 * n))⟩])) (fun i => n - i) (fun i => i ≤ n) 0 (by omega) ⟨[0], by simp [-List.reduceReplicate, LES]⟩ ?_
  intro i hi
  by_cases hlt : i < n
  · simp only [↓VC, VP, TT, List.getElem?_toArray, Nat.reduceEqDiff, reduceCtorEq, Nat.reduceAdd, Nat.reduceSub, Nat.reduceLT, Nat.reduceMul, Nat.reducePow, Nat.reduceLeDiff, Int.reduceToNat, Int.reduceLE, Int.reduceLT, Int.reducePow, hlt, (eq_true (by omega) : ((i : Int) < n) = True), (eq_true (by omega) : ((i : Int) < ((n : Nat) : Int)) = True), wrap_i64 (n := (i : Int) + 1) (by omega) (by omega), decide_true]
    refine kLoop_of (fun j : Nat => ([.s 0 0 n c, .c (.int .i64 (((k + (32 * i + j) : Nat) : Int))), .j, .j, .j, .c (.int .i64 (i)), .c (.int .i64 (j)), .j, .j, .j, .j, .j, .j, .j, .j, .j, .j, .j, .j, .j, .j, .j, .j, .j, .j, .j, .j, .j, .j], [⟨false, bs (markL k (32 * n))⟩])) (fun j => 32 - j) (fun j => j ≤ 32) 0 (by omega) ⟨[0], by simp [-List.reduceReplicate, LES]⟩ ?_
    intro j hj
    by_cases hlt2 : j < 32
    · have hg : (markL k (32 * n)).getD (i * 32 + j) 0 = UInt8.ofInt ((k + (32 * i + j) : Nat) : Int) := by rw [markL_getD (by omega), show i * 32 + j = 32 * i + j by omega]
      simp only [↓VC, VP, TT, List.getElem?_toArray, Nat.reduceEqDiff, reduceCtorEq, Nat.reduceAdd, Nat.reduceSub, Nat.reduceLT, Nat.reduceMul, Nat.reducePow, Nat.reduceLeDiff, Int.reduceToNat, Int.reduceLE, Int.reduceLT, Int.reducePow, markL_len, hlt2, (eq_true (by omega) : ((j : Int) < 32) = True), (eq_true (by omega) : ((j : Int) < ((32 : Nat) : Int)) = True), wrap_i64 (n := (j : Int) + 1) (by omega) (by omega), decide_true, hg, wrap_u8]
      refine ⟨by omega, by omega, fun h => absurd h (by simp), fun _ => ⟨j + 1, by omega, by omega, [0], ?_⟩⟩
      rw [wrap_i64 (n := ((k + (32 * i + j) : Nat) : Int) + 1) (by omega) (by omega), show ((k + (32 * i + j) : Nat) : Int) + 1 = ((k + (32 * i + (j + 1)) : Nat) : Int) by omega]
      simp [-List.reduceReplicate, LES, Nat.add_assoc]
    · obtain rfl : j = 32 := by omega
      simp only [↓VC, VP, TT, List.getElem?_toArray, Nat.reduceEqDiff, reduceCtorEq, Nat.reduceAdd, Nat.reduceSub, Nat.reduceLT, Nat.reduceMul, Nat.reducePow, Nat.reduceLeDiff, Int.reduceToNat, Int.reduceLE, Int.reduceLT, Int.reducePow, markL_len]
      refine ⟨fun h => absurd h (by simp), fun _ => ⟨i + 1, by omega, by omega, [0], ?_⟩⟩
      rw [wrap_i64 (n := (i : Int) + 1) (by omega) (by omega), show 32 * i + 32 = 32 * (i + 1) by omega]
      simp [-List.reduceReplicate, LES]
  · obtain rfl : i = n := by omega
    simp only [↓VC, VP, TT, List.getElem?_toArray, Nat.reduceEqDiff, reduceCtorEq, Nat.reduceAdd, Nat.reduceSub, Nat.reduceLT, Nat.reduceMul, Nat.reducePow, Nat.reduceLeDiff, Int.reduceToNat, Int.reduceLE, Int.reduceLT, Int.reducePow, (eq_false (by omega) : ((i : Int) < (i : Int)) = False), decide_false]
    refine ⟨_, _, [0], ⟨rfl, rfl⟩, ?_⟩
    simp [-List.reduceReplicate, LES]
end Go.Proofs.Ytapagcnipdpfiaa
