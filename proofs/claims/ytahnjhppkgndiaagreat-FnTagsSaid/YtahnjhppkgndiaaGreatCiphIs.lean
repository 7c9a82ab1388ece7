import Derived.Test.YtahnjhppkgndiaaGreatPerm
import Derived.Test.YtahnjhppkgndiaaGreatInvS
import Derived.Test.YtahnjhppkgndiaaGreatFieldC
import Derived.Test.YtahnjhppkgndiaaGreatEngE
/- Which ciphers are ones: the program and the reference. -/
set_option linter.unusedSimpArgs false
set_option linter.unusedVariables false
namespace Go.Proofs.YtahnjhppkgndiaaGreat
open Go Go.Vc
set_option maxRecDepth 10000
set_option maxHeartbeats 4000000
def detL (m : Nat) (A : List UInt8) : UInt8 := (invM m A (unP 4)).1
def backL (m : Nat) (A : List UInt8) : List UInt8 := (invM m A (unP 4)).2
theorem backL_len (m : Nat) {A : List UInt8} (hA : A.length = 16) : (backL m A).length = 16 := invM_len m hA (unP_len 4)
def invB (m : Int) (A : List UInt8) : Bool := detL m.toNat A != 0
theorem det_ne (u : UInt8) : ((u.toNat : Int) != 0) = (u != 0) := by
  rw [Bool.eq_iff_iff, bne_iff_ne, bne_iff_ne]
  constructor
  · rintro h rfl; exact h rfl
  · intro h e; exact h (UInt8.toNat_inj.1 (by show u.toNat = 0; omega))
theorem c_spec_l03Inverse (m : Nat) (A : List UInt8) (hm : 256 ≤ m) (hm' : m < 512) (hA : A.length = 16) : LC Tryz.prog 154 [.c (.int .i64 (m)), .a (bs A)] [] (fun v hp => v = .t [.a (bs (backL m A)), .c (.bool (invB m A))] ∧ hp = []) := by
  have hI := backL_len m hA
  refine LC_of (X := XX (fun _ => .nil) (fun _ => []) [15, 71, 72, 73, 79, 80, 87, 90, 91, 93, 99, 119, 137, 176, 177, 203, 204, 212, 219] 0) envOK Tryz.func154 (by kernel_rfl) (by kernel_rfl) rfl (Nat.le_of_ble_eq_true (by kernel_rfl)) ?_
  simp only [kFun, Tryz.f154, List.length_nil, List.length_cons, Nat.sub_zero, Nat.reduceSub, Nat.reduceAdd, List.nil_append, List.cons_append, List.replicate_succ, List.replicate_zero]
  simp only [XX, ↓VC, VP, TT, Nat.reduceEqDiff, reduceCtorEq, Nat.reduceAdd, Nat.reduceSub, Nat.reduceLT, Nat.reduceMul, Nat.reducePow, Nat.reduceLeDiff, Int.reduceToNat, Int.reduceLE, Int.reduceLT, Int.reducePow, hA]
  refine kCall_val (c_spec_l03Reduce m A hm hm' hA) (by rfl) [] (by simp [CALL]) (by simp [CALL, cellsAt]) (by simp [CALL]) (by simp [okL_bs]) ?_
  have e1 : (invM m A (unP 4)).2 = backL m A := rfl
  have e2 : (invM m A (unP 4)).1 = detL m A := rfl
  simp only [CALL, ↓VC, VP, TT, Nat.reduceEqDiff, reduceCtorEq, Nat.reduceAdd, Nat.reduceSub, Nat.reduceLT, Nat.reduceMul, Nat.reducePow, Nat.reduceLeDiff, Int.reduceToNat, Int.reduceLE, Int.reduceLT, Int.reducePow, e1, e2, hI, det_ne]
  refine ⟨_, _, [], ⟨rfl, rfl⟩, ?_⟩; simp [-List.reduceReplicate, LES, invB]
theorem c_impl_isInvertible (m : Nat) (A : List UInt8) (hm : 256 ≤ m) (hm' : m < 512) (hA : A.length = 16) : LC Tryz.prog 149 [.c (.int .i64 (m)), .a (bs A)] [] (fun v hp => v = .c (.bool (invB m A)) ∧ hp = []) := by
  have hI := backL_len m hA
  refine LC_of (X := XX (fun _ => .nil) (fun _ => []) [15, 71, 72, 73, 79, 80, 87, 90, 91, 93, 99, 119, 137, 176, 177, 203, 204, 212, 219] 0) envOK Tryz.func149 (by kernel_rfl) (by kernel_rfl) rfl (Nat.le_of_ble_eq_true (by kernel_rfl)) ?_
  simp only [kFun, Tryz.f149, List.length_nil, List.length_cons, Nat.sub_zero, Nat.reduceSub, Nat.reduceAdd, List.nil_append, List.cons_append, List.replicate_succ, List.replicate_zero]
  simp only [XX, ↓VC, VP, TT, Nat.reduceEqDiff, reduceCtorEq, Nat.reduceAdd, Nat.reduceSub, Nat.reduceLT, Nat.reduceMul, Nat.reducePow, Nat.reduceLeDiff, Int.reduceToNat, Int.reduceLE, Int.reduceLT, Int.reducePow, hA]
  refine kCall_val (c_impl_invert m A hm hm' hA) (by rfl) [] (by simp [CALL]) (by simp [CALL, cellsAt]) (by simp [CALL]) (by simp [okL_bs]) ?_
  have e1 : (invM m A (unP 4)).2 = backL m A := rfl
  have e2 : (invM m A (unP 4)).1 = detL m A := rfl
  simp only [CALL, ↓VC, VP, TT, Nat.reduceEqDiff, reduceCtorEq, Nat.reduceAdd, Nat.reduceSub, Nat.reduceLT, Nat.reduceMul, Nat.reducePow, Nat.reduceLeDiff, Int.reduceToNat, Int.reduceLE, Int.reduceLT, Int.reducePow, e1, e2, hI, det_ne]
  refine ⟨_, _, [], ⟨rfl, rfl⟩, ?_⟩; simp [-List.reduceReplicate, LES, invB]
/-- Is it a cipher? -/
def cipB (z : Int) (box A pl : List UInt8) (n : Int) : Bool := fieldB z && (permB box && (invB z A && (plcB pl && decide (1 ≤ n ∧ n ≤ 20))))
/-- What a cipher's parts are. -/
theorem cipB_spec {z : Int} {box A pl : List UInt8} {n : Int} (hp : pl.length = 16) (h : cipB z box A pl n = true) : ∃ m k : Nat, z = m ∧ n = k ∧ 256 ≤ m ∧ m < 512 ∧ pl16 pl ∧ 1 ≤ k ∧ k ≤ 20 := by
  unfold cipB at h
  simp only [Bool.and_eq_true, decide_eq_true_eq] at h
  obtain ⟨m, rfl, h1, h2⟩ := fieldB_spec h.1
  exact ⟨m, n.toNat, rfl, by omega, h1, h2, plcB_pl16 hp h.2.2.2.1, by omega, by omega⟩
theorem c_spec_l04Is (z n : Int) (box A pl : List UInt8) (hb : box.length = 256) (hA : A.length = 16) (hp : pl.length = 16) : LC Tryz.prog 84 [.a (cipC z box A pl n)] [] (fun v hp => v = .c (.bool (cipB z box A pl n)) ∧ hp = []) := by
  refine LC_of (X := XX (fun _ => .nil) (fun _ => []) [15, 71, 72, 73, 79, 80, 87, 90, 91, 93, 99, 119, 137, 176, 177, 203, 204, 212, 219] 0) envOK Tryz.func84 (by kernel_rfl) (by kernel_rfl) rfl (Nat.le_of_ble_eq_true (by kernel_rfl)) ?_
  simp only [kFun, Tryz.f84, List.length_nil, List.length_cons, Nat.sub_zero, Nat.reduceSub, Nat.reduceAdd, List.nil_append, List.cons_append, List.replicate_succ, List.replicate_zero]
  simp only [XX, ↓VC, VP, TT, Nat.reduceEqDiff, reduceCtorEq, Nat.reduceAdd, Nat.reduceSub, Nat.reduceLT, Nat.reduceMul, Nat.reducePow, Nat.reduceLeDiff, Int.reduceToNat, Int.reduceLE, Int.reduceLT, Int.reducePow, cipC_len hb hA hp, ↓cip_all hb hA hp, ↓cip_field, ↓cip_box hb, ↓cip_mix hb hA, ↓cip_pl hb hA hp, ↓cip_rd hb hA hp]
  refine kCall_val (c_spec_l01Field z) (by rfl) [] (by simp [CALL]) (by simp [CALL, cellsAt]) (by simp [CALL]) (by simp [okL_bs]) ?_
  simp only [CALL, ↓VC, VP, TT, Nat.reduceEqDiff, reduceCtorEq, Nat.reduceAdd, Nat.reduceSub, Nat.reduceLT, Nat.reduceMul, Nat.reducePow, Nat.reduceLeDiff, Int.reduceToNat, Int.reduceLE, Int.reduceLT, Int.reducePow]
  refine kGd_split rfl (fun h1 => ?_) (fun h1 => ?_) <;> simp only [↓VC, VP, TT, Nat.reduceEqDiff, reduceCtorEq, Nat.reduceAdd, Nat.reduceSub, Nat.reduceLT, Nat.reduceMul, Nat.reducePow, Nat.reduceLeDiff, Int.reduceToNat, Int.reduceLE, Int.reduceLT, Int.reducePow, h1, ↓cip_field, ↓cip_box hb, ↓cip_mix hb hA, ↓cip_pl hb hA hp, ↓cip_rd hb hA hp]
  · simp only [Bool.not_eq_true'] at h1
    refine ⟨_, _, [], ⟨rfl, rfl⟩, ?_⟩; simp [-List.reduceReplicate, LES, cipB, h1]
  simp only [Bool.not_eq_false'] at h1
  obtain ⟨m, rfl, hm, hm'⟩ := fieldB_spec h1
  refine kCall_val (c_spec_l02Is box hb) (by rfl) [] (by simp [CALL]) (by simp [CALL, cellsAt]) (by simp [CALL]) (by simp [okL_bs]) ?_
  simp only [CALL, ↓VC, VP, TT, Nat.reduceEqDiff, reduceCtorEq, Nat.reduceAdd, Nat.reduceSub, Nat.reduceLT, Nat.reduceMul, Nat.reducePow, Nat.reduceLeDiff, Int.reduceToNat, Int.reduceLE, Int.reduceLT, Int.reducePow]
  refine kGd_split rfl (fun h2 => ?_) (fun h2 => ?_) <;> simp only [↓VC, VP, TT, Nat.reduceEqDiff, reduceCtorEq, Nat.reduceAdd, Nat.reduceSub, Nat.reduceLT, Nat.reduceMul, Nat.reducePow, Nat.reduceLeDiff, Int.reduceToNat, Int.reduceLE, Int.reduceLT, Int.reducePow, h2, ↓cip_field, ↓cip_box hb, ↓cip_mix hb hA, ↓cip_pl hb hA hp, ↓cip_rd hb hA hp]
  · simp only [Bool.not_eq_true'] at h2
    refine ⟨_, _, [], ⟨rfl, rfl⟩, ?_⟩; simp [-List.reduceReplicate, LES, cipB, h2]
  simp only [Bool.not_eq_false'] at h2
  refine kCall_val (c_spec_l03Perm pl hp) (by rfl) [] (by simp [CALL]) (by simp [CALL, cellsAt]) (by simp [CALL]) (by simp [okL_bs]) ?_
  simp only [CALL, ↓VC, VP, TT, Nat.reduceEqDiff, reduceCtorEq, Nat.reduceAdd, Nat.reduceSub, Nat.reduceLT, Nat.reduceMul, Nat.reducePow, Nat.reduceLeDiff, Int.reduceToNat, Int.reduceLE, Int.reduceLT, Int.reducePow]
  refine kGd_split rfl (fun h3 => ?_) (fun h3 => ?_) <;> simp only [↓VC, VP, TT, Nat.reduceEqDiff, reduceCtorEq, Nat.reduceAdd, Nat.reduceSub, Nat.reduceLT, Nat.reduceMul, Nat.reducePow, Nat.reduceLeDiff, Int.reduceToNat, Int.reduceLE, Int.reduceLT, Int.reducePow, h3, ↓cip_field, ↓cip_box hb, ↓cip_mix hb hA, ↓cip_pl hb hA hp, ↓cip_rd hb hA hp]
  · simp only [Bool.not_eq_true'] at h3
    refine ⟨_, _, [], ⟨rfl, rfl⟩, ?_⟩; simp [-List.reduceReplicate, LES, cipB, h3]
  simp only [Bool.not_eq_false'] at h3
  refine kCall_val (c_spec_l01In n 1 20) (by rfl) [] (by simp [CALL]) (by simp [CALL, cellsAt]) (by simp [CALL]) (by simp [okL_bs]) ?_
  simp only [CALL, ↓VC, VP, TT, Nat.reduceEqDiff, reduceCtorEq, Nat.reduceAdd, Nat.reduceSub, Nat.reduceLT, Nat.reduceMul, Nat.reducePow, Nat.reduceLeDiff, Int.reduceToNat, Int.reduceLE, Int.reduceLT, Int.reducePow, ↓cip_field, ↓cip_mix hb hA]
  refine ⟨fun h4 => ?_, fun h4 => ?_⟩
  · simp only [Bool.not_eq_true', decide_eq_false_iff_not] at h4
    refine ⟨_, _, [], ⟨rfl, rfl⟩, ?_⟩; simp [-List.reduceReplicate, LES, cipB, h4]
  simp only [Bool.not_eq_false', decide_eq_true_eq] at h4
  refine kCall_val (c_spec_l03Inverse m A hm hm' hA) (by rfl) [] (by simp [CALL]) (by simp [CALL, cellsAt]) (by simp [CALL]) (by simp [okL_bs]) ?_
  simp only [CALL, ↓VC, VP, TT, Nat.reduceEqDiff, reduceCtorEq, Nat.reduceAdd, Nat.reduceSub, Nat.reduceLT, Nat.reduceMul, Nat.reducePow, Nat.reduceLeDiff, Int.reduceToNat, Int.reduceLE, Int.reduceLT, Int.reducePow, backL_len m hA]
  refine ⟨_, _, [], ⟨rfl, rfl⟩, ?_⟩; simp [-List.reduceReplicate, LES, cipB, h1, h2, h3, h4]
theorem c_impl_IsCipher (z n : Int) (box A pl : List UInt8) (hb : box.length = 256) (hA : A.length = 16) (hp : pl.length = 16) : LC Tryz.prog 81 [.a (cipC z box A pl n)] [] (fun v hp => v = .c (.bool (cipB z box A pl n)) ∧ hp = []) := by
  refine LC_of (X := XX (fun _ => .nil) (fun _ => []) [15, 71, 72, 73, 79, 80, 87, 90, 91, 93, 99, 119, 137, 176, 177, 203, 204, 212, 219] 0) envOK Tryz.func81 (by kernel_rfl) (by kernel_rfl) rfl (Nat.le_of_ble_eq_true (by kernel_rfl)) ?_
  simp only [kFun, Tryz.f81, List.length_nil, List.length_cons, Nat.sub_zero, Nat.reduceSub, Nat.reduceAdd, List.nil_append, List.cons_append, List.replicate_succ, List.replicate_zero]
  simp only [XX, ↓VC, VP, TT, Nat.reduceEqDiff, reduceCtorEq, Nat.reduceAdd, Nat.reduceSub, Nat.reduceLT, Nat.reduceMul, Nat.reducePow, Nat.reduceLeDiff, Int.reduceToNat, Int.reduceLE, Int.reduceLT, Int.reducePow, cipC_len hb hA hp, ↓cip_all hb hA hp, ↓cip_field, ↓cip_box hb, ↓cip_mix hb hA, ↓cip_pl hb hA hp, ↓cip_rd hb hA hp]
  refine kCall_val (c_impl_IsField z) (by rfl) [] (by simp [CALL]) (by simp [CALL, cellsAt]) (by simp [CALL]) (by simp [okL_bs]) ?_
  simp only [CALL, ↓VC, VP, TT, Nat.reduceEqDiff, reduceCtorEq, Nat.reduceAdd, Nat.reduceSub, Nat.reduceLT, Nat.reduceMul, Nat.reducePow, Nat.reduceLeDiff, Int.reduceToNat, Int.reduceLE, Int.reduceLT, Int.reducePow]
  refine kGd_split rfl (fun h1 => ?_) (fun h1 => ?_) <;> simp only [↓VC, VP, TT, Nat.reduceEqDiff, reduceCtorEq, Nat.reduceAdd, Nat.reduceSub, Nat.reduceLT, Nat.reduceMul, Nat.reducePow, Nat.reduceLeDiff, Int.reduceToNat, Int.reduceLE, Int.reduceLT, Int.reducePow, h1, ↓cip_field, ↓cip_box hb, ↓cip_mix hb hA, ↓cip_pl hb hA hp, ↓cip_rd hb hA hp]
  rotate_left
  · refine ⟨_, _, [], ⟨rfl, rfl⟩, ?_⟩; simp [-List.reduceReplicate, LES, cipB, h1]
  obtain ⟨m, rfl, hm, hm'⟩ := fieldB_spec h1
  refine kCall_val (c_impl_IsPermutation box hb) (by rfl) [] (by simp [CALL]) (by simp [CALL, cellsAt]) (by simp [CALL]) (by simp [okL_bs]) ?_
  simp only [CALL, ↓VC, VP, TT, Nat.reduceEqDiff, reduceCtorEq, Nat.reduceAdd, Nat.reduceSub, Nat.reduceLT, Nat.reduceMul, Nat.reducePow, Nat.reduceLeDiff, Int.reduceToNat, Int.reduceLE, Int.reduceLT, Int.reducePow]
  refine kGd_split rfl (fun h2 => ?_) (fun h2 => ?_) <;> simp only [↓VC, VP, TT, Nat.reduceEqDiff, reduceCtorEq, Nat.reduceAdd, Nat.reduceSub, Nat.reduceLT, Nat.reduceMul, Nat.reducePow, Nat.reduceLeDiff, Int.reduceToNat, Int.reduceLE, Int.reduceLT, Int.reducePow, h2, ↓cip_field, ↓cip_box hb, ↓cip_mix hb hA, ↓cip_pl hb hA hp, ↓cip_rd hb hA hp]
  rotate_left
  · refine ⟨_, _, [], ⟨rfl, rfl⟩, ?_⟩; simp [-List.reduceReplicate, LES, cipB, h2]
  refine kCall_val (c_impl_isInvertible m A hm hm' hA) (by rfl) [] (by simp [CALL]) (by simp [CALL, cellsAt]) (by simp [CALL]) (by simp [okL_bs]) ?_
  simp only [CALL, ↓VC, VP, TT, Nat.reduceEqDiff, reduceCtorEq, Nat.reduceAdd, Nat.reduceSub, Nat.reduceLT, Nat.reduceMul, Nat.reducePow, Nat.reduceLeDiff, Int.reduceToNat, Int.reduceLE, Int.reduceLT, Int.reducePow]
  refine kGd_split rfl (fun h3 => ?_) (fun h3 => ?_) <;> simp only [↓VC, VP, TT, Nat.reduceEqDiff, reduceCtorEq, Nat.reduceAdd, Nat.reduceSub, Nat.reduceLT, Nat.reduceMul, Nat.reducePow, Nat.reduceLeDiff, Int.reduceToNat, Int.reduceLE, Int.reduceLT, Int.reducePow, h3, ↓cip_field, ↓cip_box hb, ↓cip_mix hb hA, ↓cip_pl hb hA hp, ↓cip_rd hb hA hp]
  rotate_left
  · refine ⟨_, _, [], ⟨rfl, rfl⟩, ?_⟩; simp [-List.reduceReplicate, LES, cipB, h3]
  refine kCall_val (c_impl_ArePlaces pl hp) (by rfl) [] (by simp [CALL]) (by simp [CALL, cellsAt]) (by simp [CALL]) (by simp [okL_bs]) ?_
  simp only [CALL, ↓VC, VP, TT, Nat.reduceEqDiff, reduceCtorEq, Nat.reduceAdd, Nat.reduceSub, Nat.reduceLT, Nat.reduceMul, Nat.reducePow, Nat.reduceLeDiff, Int.reduceToNat, Int.reduceLE, Int.reduceLT, Int.reducePow]
  refine kGd_split rfl (fun h4 => ?_) (fun h4 => ?_) <;> simp only [↓VC, VP, TT, Nat.reduceEqDiff, reduceCtorEq, Nat.reduceAdd, Nat.reduceSub, Nat.reduceLT, Nat.reduceMul, Nat.reducePow, Nat.reduceLeDiff, Int.reduceToNat, Int.reduceLE, Int.reduceLT, Int.reducePow, h4, ↓cip_field, ↓cip_box hb, ↓cip_mix hb hA, ↓cip_pl hb hA hp, ↓cip_rd hb hA hp]
  rotate_left
  · refine ⟨_, _, [], ⟨rfl, rfl⟩, ?_⟩; simp [-List.reduceReplicate, LES, cipB, h4]
  refine kCall_val (c_impl_inRange n 1 20) (by rfl) [] (by simp [CALL]) (by simp [CALL, cellsAt]) (by simp [CALL]) (by simp [okL_bs]) ?_
  simp only [CALL, ↓VC, VP, TT, Nat.reduceEqDiff, reduceCtorEq, Nat.reduceAdd, Nat.reduceSub, Nat.reduceLT, Nat.reduceMul, Nat.reducePow, Nat.reduceLeDiff, Int.reduceToNat, Int.reduceLE, Int.reduceLT, Int.reducePow]
  refine ⟨_, _, [], ⟨rfl, rfl⟩, ?_⟩; simp [-List.reduceReplicate, LES, cipB, h1, h2, h3, h4]
end Go.Proofs.YtahnjhppkgndiaaGreat
