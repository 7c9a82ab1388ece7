import Derived.Test.YtapagcnipdpfiaaRoot
import Derived.Test.YtapagcnipdpfiaaFieldM
/- The laws' own helpers over slices of digests. -/
set_option linter.unusedSimpArgs false
set_option linter.unusedVariables false
namespace Go.Proofs.Ytapagcnipdpfiaa
open Go Go.Vc
set_option maxRecDepth 10000
set_option maxHeartbeats 4000000
theorem flatZ (k : Nat) : ∀ n, (List.replicate n (bs (List.replicate k 0))).flatten = bs (List.replicate (k * n) 0)
  | 0 => by simp [bs_nil]
  | n + 1 => by rw [List.replicate_succ, List.flatten_cons, flatZ k n, bs_append, List.replicate_append_replicate, show k + k * n = k * (n + 1) by rw [Nat.mul_succ]; omega]
theorem c_laws_szDigestS (n c m : Nat) (D : List UInt8) (hD : D.length = 32 * n) (hc : n ≤ c) (hm : n ≤ maxLen) (h20 : m ≤ 1048576) : LC Try.prog 26 [.s 0 0 n c, .c (.int .i64 (m))] [⟨false, bs D⟩] (fun v hp => v = .c (.int .i64 ((if n ≤ m then (m : Int) - n else -1))) ∧ hp = [⟨false, bs D⟩]) := by
  refine LC_of (X := XX (fun _ => .nil) (fun _ => []) [25, 33, 34, 61, 62, 82, 87, 112, 119, 141] 1) envOK Try.func26 (by kernel_rfl) (by kernel_rfl) rfl (Nat.le_of_ble_eq_true (by kernel_rfl)) ?_
  simp only [kFun, Try.f26, List.length_nil, List.length_cons, Nat.sub_zero, Nat.reduceSub, Nat.reduceAdd, List.nil_append, List.cons_append, List.replicate_succ, List.replicate_zero]
  simp only [XX, ↓VC, VP, TT, List.getElem?_toArray, Nat.reduceEqDiff, reduceCtorEq, Nat.reduceAdd, Nat.reduceSub, Nat.reduceLT, Nat.reduceMul, Nat.reducePow, Nat.reduceLeDiff, Int.reduceToNat, Int.reduceLE, Int.reduceLT, Int.reducePow]
  unfold maxLen at hm
  rw [wrap_i64 (by omega) (by omega)]
  refine ⟨fun h => ⟨_, _, [0], ⟨rfl, rfl⟩, ?_⟩, fun h => ⟨_, _, [0], ⟨rfl, rfl⟩, ?_⟩⟩
  · rw [if_neg (by omega)]; simp [-List.reduceReplicate, LES]
  · rw [if_pos (by omega)]; simp [-List.reduceReplicate, LES]
/-- The digest at a place. -/
def dgA (D : List UInt8) (i : Nat) : List UInt8 := (D.drop (32 * i)).take 32
theorem dgA_len {D : List UInt8} {i n : Nat} (hD : D.length = 32 * n) (h : i < n) : (dgA D i).length = 32 := by
  unfold dgA; rw [List.length_take, List.length_drop]; omega
theorem dgA_succ {D : List UInt8} {i n : Nat} (hD : D.length = 32 * n) (h : i < n) : D.take (32 * (i + 1)) = D.take (32 * i) ++ dgA D i := by
  unfold dgA; rw [Nat.mul_succ, List.take_add]
theorem dgA_eq (D : List UInt8) (i : Nat) : List.take 32 (List.drop (i * 32) D) = dgA D i := by rw [Nat.mul_comm]; rfl
theorem splB_fill {D : List UInt8} {i n : Nat} (hD : D.length = 32 * n) (h : i < n) : splB (D.take (32 * i) ++ List.replicate (32 * (n - i)) 0) (i * 32) (dgA D i) = D.take (32 * (i + 1)) ++ List.replicate (32 * (n - (i + 1))) 0 := by
  have hl : (D.take (32 * i)).length = 32 * i := by rw [List.length_take]; omega
  unfold splB
  rw [dgA_len hD h, List.take_append_of_le_length (by omega), List.take_of_length_le (by omega), List.drop_append, List.drop_eq_nil_of_le (by omega), hl, List.drop_replicate, dgA_succ hD h, List.append_assoc]
  simp only [List.nil_append]
  rw [show 32 * (n - i) - (i * 32 + 32 - 32 * i) = 32 * (n - (i + 1)) by omega, List.append_assoc]
theorem c_laws_toDigestS (n c : Nat) (D : List UInt8) (hD : D.length = 32 * n) (hc : n ≤ c) (hm : n ≤ 1048576) : LC Try.prog 28 [.s 0 0 n c] [⟨false, bs D⟩] (Ret [⟨false, bs D⟩] (fun _ : Unit => True) fun _ => (.s 1 0 n n, [⟨true, bs D⟩])) := by
  refine LC_of (X := XX (fun _ => .nil) (fun _ => []) [25, 33, 34, 61, 62, 82, 87, 112, 119, 141] 1) envOK Try.func28 (by kernel_rfl) (by kernel_rfl) rfl (Nat.le_of_ble_eq_true (by kernel_rfl)) ?_
  simp only [kFun, Try.f28, List.length_nil, List.length_cons, Nat.sub_zero, Nat.reduceSub, Nat.reduceAdd, List.nil_append, List.cons_append, List.replicate_succ, List.replicate_zero]
  simp only [XX, ↓VC, VP, TT, List.getElem?_toArray, Nat.reduceEqDiff, reduceCtorEq, Nat.reduceAdd, Nat.reduceSub, Nat.reduceLT, Nat.reduceMul, Nat.reducePow, Nat.reduceLeDiff, Int.reduceToNat, Int.reduceLE, Int.reduceLT, Int.reducePow, flat_zeros, flatZ]
  refine ⟨by omega, by omega, by omega, ?_⟩
  refine kLoop_of (fun i : Nat => ([.s 0 0 n c, .j, .j, .s 1 0 n n, .c (.int .i64 (i)), .j, .j, .j, .j, .j, .j, .j, .j, .j, .j, .j, .j, .j, .j, .j, .j, .j, .j], [⟨false, bs D⟩, ⟨true, bs (D.take (32 * i) ++ List.replicate (32 * (n - i)) 0)⟩])) (fun i => n - i) (fun i => i ≤ n) 0 (by omega) ⟨[0, 1], by simp [-List.reduceReplicate, LES, flatZ]⟩ ?_
  intro i hi
  have hl : (D.take (32 * i) ++ List.replicate (32 * (n - i)) 0).length = 32 * n := by simp; omega
  simp only [↓VC, VP, TT, List.getElem?_toArray, Nat.reduceEqDiff, reduceCtorEq, Nat.reduceAdd, Nat.reduceSub, Nat.reduceLT, Nat.reduceMul, Nat.reducePow, Nat.reduceLeDiff, Int.reduceToNat, Int.reduceLE, Int.reduceLT, Int.reducePow, hl, hD, dgA_eq]
  refine ⟨fun h => ⟨by omega, by omega, ?_⟩, fun h => ⟨_, _, [0, 1], ⟨(), trivial, rfl, rfl⟩, ?_⟩⟩
  · have hd := dgA_len (D := D) (i := i) hD (by omega)
    refine kCall_val (c_laws_toDigest (dgA D i) hd) (by rfl) [] (by simp [CALL]) (by simp [CALL, cellsAt]) (by simp [CALL]) (by simp [okL_bs]) ?_
    simp only [CALL, ↓VC, VP, TT, List.getElem?_toArray, Nat.reduceEqDiff, reduceCtorEq, Nat.reduceAdd, Nat.reduceSub, Nat.reduceLT, Nat.reduceMul, Nat.reducePow, Nat.reduceLeDiff, Int.reduceToNat, Int.reduceLE, Int.reduceLT, Int.reducePow, hl, hd]
    refine ⟨by omega, by omega, i + 1, by omega, by omega, [0, 1], ?_⟩
    rw [wrap_i64 (by omega) (by omega), splB_fill hD (by omega)]
    simp [-List.reduceReplicate, LES]
  · obtain rfl : i = n := by omega
    rw [List.take_of_length_le (by omega)]
    simp [-List.reduceReplicate, LES]
theorem dgs_ne {A B : List UInt8} {i : Nat} (h : dgA A i ≠ dgA B i) : A ≠ B := fun e => h (by rw [e])
theorem c_laws_eqDigestS (n m ca cb : Nat) (A B : List UInt8) (hA : A.length = 32 * n) (hB : B.length = 32 * m) (hca : n ≤ ca) (hcb : m ≤ cb) (hm : n ≤ 1048576) : LC Try.prog 32 [.s 0 0 n ca, .s 1 0 m cb] [⟨false, bs A⟩, ⟨false, bs B⟩] (fun v hp => v = .c (.bool (A == B)) ∧ hp = [⟨false, bs A⟩, ⟨false, bs B⟩]) := by
  refine LC_of (X := XX (fun | 6 => .one 0 (.one 1 (.one 2 (.one 3 (.one 4 (.one 5 (.one 6 (.one 7 (.one 8 (.one 9 .nil))))))))) | _ => .nil) (fun _ => []) [25, 33, 34, 61, 62, 82, 87, 112, 119, 141] 2) envOK Try.func32 (by kernel_rfl) (by kernel_rfl) rfl (Nat.le_of_ble_eq_true (by kernel_rfl)) ?_
  simp only [kFun, Try.f32, List.length_nil, List.length_cons, Nat.sub_zero, Nat.reduceSub, Nat.reduceAdd, List.nil_append, List.cons_append, List.replicate_succ, List.replicate_zero]
  simp only [XX, ↓VC, VP, TT, List.getElem?_toArray, Nat.reduceEqDiff, reduceCtorEq, Nat.reduceAdd, Nat.reduceSub, Nat.reduceLT, Nat.reduceMul, Nat.reducePow, Nat.reduceLeDiff, Int.reduceToNat, Int.reduceLE, Int.reduceLT, Int.reducePow]
  refine ⟨fun h => ⟨_, _, [0, 1], ⟨rfl, rfl⟩, ?_⟩, fun h => ?_⟩
  · rw [bne_iff_ne] at h
    have : (A == B) = false := by rw [beq_eq_false_iff_ne]; intro e; exact h (by rw [e] at hA; omega)
    rw [this]; simp [-List.reduceReplicate, LES]
  · obtain rfl : m = n := by have := bne_eq_false_iff_eq.1 h; omega
    refine kLoop_of (fun i : Nat => ([.s 0 0 m ca, .s 1 0 m cb, .j, .j, .j, .c (.int .i64 (i)), .j, .j, .j, .j, .j, .j, .j, .j, .j, .j, .j, .j, .j, .j, .j, .j, .j, .j, .j, .j, .j], [⟨false, bs A⟩, ⟨false, bs B⟩])) (fun i => m - i) (fun i => i ≤ m ∧ A.take (32 * i) = B.take (32 * i)) 0 (by simp) ⟨[0, 1], by simp [-List.reduceReplicate, LES]⟩ ?_
    rintro i ⟨hi, ht⟩
    simp only [↓VC, VP, TT, List.getElem?_toArray, Nat.reduceEqDiff, reduceCtorEq, Nat.reduceAdd, Nat.reduceSub, Nat.reduceLT, Nat.reduceMul, Nat.reducePow, Nat.reduceLeDiff, Int.reduceToNat, Int.reduceLE, Int.reduceLT, Int.reducePow, hA, hB, dgA_eq]
    refine ⟨fun h => ?_, fun h => ⟨_, _, [0, 1], ⟨rfl, rfl⟩, ?_⟩⟩
    · repeat (refine ⟨by first | omega | (simp; done) | decide, ?_⟩)
      refine kCall_val (c_laws_eqDigest (dgA A i) (dgA B i) (dgA_len hA (by omega)) (dgA_len hB (by omega))) (by rfl) [] (by simp [CALL]) (by simp [CALL, cellsAt]) (by simp [CALL]) (by simp [okL_bs]) ?_
      simp only [CALL, ↓VC, VP, TT, List.getElem?_toArray, Nat.reduceEqDiff, reduceCtorEq, Nat.reduceAdd, Nat.reduceSub, Nat.reduceLT, Nat.reduceMul, Nat.reducePow, Nat.reduceLeDiff, Int.reduceToNat, Int.reduceLE, Int.reduceLT, Int.reducePow]
      refine ⟨fun hne => ⟨_, _, [0, 1], ⟨rfl, rfl⟩, ?_⟩, fun he => ⟨i + 1, ⟨by omega, ?_⟩, by omega, [0, 1], ?_⟩⟩
      · simp only [Bool.not_eq_true', beq_eq_false_iff_ne] at hne
        have : (A == B) = false := by rw [beq_eq_false_iff_ne]; exact dgs_ne hne
        rw [this]; simp [-List.reduceReplicate, LES]
      · simp only [Bool.not_eq_false', beq_iff_eq] at he
        rw [dgA_succ hA (by omega), dgA_succ hB (by omega), ht, he]
      · rw [wrap_i64 (by omega) (by omega)]
        simp [-List.reduceReplicate, LES]
    · obtain rfl : i = m := by omega
      rw [List.take_of_length_le (by omega), List.take_of_length_le (by omega)] at ht
      subst ht
      simp [-List.reduceReplicate, LES]
end Go.Proofs.Ytapagcnipdpfiaa
