import Derived.Test.YtapagcnipdpfiaaPerm
import Derived.Test.YtapagcnipdpfiaaInvS
import Derived.Test.YtapagcnipdpfiaaFieldC
import Derived.Test.YtapagcnipdpfiaaEngE
/- Which ciphers are ones: the program and the reference. -/
set_option linter.unusedSimpArgs false
set_option linter.unusedVariables false
namespace Go.Proofs.Ytapagcnipdpfiaa
open Go Go.Vc
set_option maxRecDepth 10000
set_option maxHeartbeats 4000000
def detL (m : Nat) (A : List UInt8) : UInt8 := (invM m A (unP 4)).1
def backL (m : Nat) (A : List UInt8) : List UInt8 := (invM m A (unP 4)).2
theorem backL_len (m : Nat) {A : List UInt8} (hA : A.length = 16) : (backL m A).length = 16 := invM_len m hA (unP_len 4)
def invB (m : Int) (A : List UInt8) : Bool := detL m.toNat A != 0
theorem det_ne (u : UInt8) : ((u.toNat : Int) != 0) = (u != 0) := by
  rw [Bool.eq_iff_iff, bne_iff_ne, bne_iff_ne]
  constructor
  · rintro h rfl; exact h rfl
  · intro h e; exact h (UInt8.toNat_inj.1 (by show u.toNat = 0; omega))
theorem c_spec_l03Inverse (m : Nat) (A : List UInt8) (hm : 256 ≤ m) (hm' : m < 512) (hA : A.length = 16) : LC Try.prog 133 [.c (.int .i64 (m)), .a (bs A)] [] (fun v hp => v = .t [.a (bs (backL m A)), .c (.bool (invB m A))] ∧ hp = []) := by
  have hI := backL_len m hA
  refine LC_of (X := XX (fun _ => .nil) (fun _ => []) [25, 33, 34, 61, 62, 82, 87, 112, 119, 141] 0) envOK Try.func133 (by kernel_rfl) (by kernel_rfl) rfl (Nat.le_of_ble_eq_true (by kernel_rfl)) ?_
  simp only [kFun, Try.f133, List.length_nil, List.length_cons, Nat.sub_zero, Nat.reduceSub, Nat.reduceAdd, List.nil_append, List.cons_append, List.replicate_succ, List.replicate_zero]
  simp only [XX, ↓VC, VP, TT, List.getElem?_toArray, Nat.reduceEqDiff, reduceCtorEq, Nat.reduceAdd, Nat.reduceSub, Nat.reduceLT, Nat.reduceMul, Nat.reducePow, Nat.reduceLeDiff, Int.reduceToNat, Int.reduceLE, Int.reduceLT, Int.reducePow, hA]
  refine kCall_val (c_spec_l03Reduce m A hm hm' hA) (by rfl) [] (by simp [CALL]) (by simp [CALL, cellsAt]) (by simp [CALL]) (by simp [okL_bs]) ?_
  have e1 : (invM m A (unP 4)).2 = backL m A := rfl
  have e2 : (invM m A (unP 4)).1 = detL m A := rfl
  simp only [CALL, ↓VC, VP, TT, List.getElem?_toArray, Nat.reduceEqDiff, reduceCtorEq, Nat.reduceAdd, Nat.reduceSub, Nat.reduceLT, Nat.reduceMul, Nat.reducePow, Nat.reduceLeDiff, Int.reduceToNat, Int.reduceLE, Int.reduceLT, Int.reducePow, e1, e2, hI, det_ne]
  refine ⟨_, _, [], ⟨rfl, rfl⟩, ?_⟩; simp [-List.reduceReplicate, LES, invB]
theorem c_spec_l03Is (m : Nat) (A : List UInt8) (hm : 256 ≤ m) (hm' : m < 512) (hA : A.length = 16) : LC Try.prog 131 [.c (.int .i64 (m)), .a (bs A)] [] (fun v hp => v = .c (.bool (invB m A)) ∧ hp = []) := by
  have hI := backL_len m hA
  refine LC_of (X := XX (fun _ => .nil) (fun _ => []) [25, 33, 34, 61, 62, 82, 87, 112, 119, 141] 0) envOK Try.func131 (by kernel_rfl) (by kernel_rfl) rfl (Nat.le_of_ble_eq_true (by kernel_rfl)) ?_
  simp only [kFun, Try.f131, List.length_nil, List.length_cons, Nat.sub_zero, Nat.reduceSub, Nat.reduceAdd, List.nil_append, List.cons_append, List.replicate_succ, List.replicate_zero]
  simp only [XX, ↓VC, VP, TT, List.getElem?_toArray, Nat.reduceEqDiff, reduceCtorEq, Nat.reduceAdd, Nat.reduceSub, Nat.reduceLT, Nat.reduceMul, Nat.reducePow, Nat.reduceLeDiff, Int.reduceToNat, Int.reduceLE, Int.reduceLT, Int.reducePow, hA]
  refine kCall_val (c_spec_l03Reduce m A hm hm' hA) (by rfl) [] (by simp [CALL]) (by simp [CALL, cellsAt]) (by simp [CALL]) (by simp [okL_bs]) ?_
  have e1 : (invM m A (unP 4)).2 = backL m A := rfl
  have e2 : (invM m A (unP 4)).1 = detL m A := rfl
  simp only [CALL, ↓VC, VP, TT, List.getElem?_toArray, Nat.reduceEqDiff, reduceCtorEq, Nat.reduceAdd, Nat.reduceSub, Nat.reduceLT, Nat.reduceMul, Nat.reducePow, Nat.reduceLeDiff, Int.reduceToNat, Int.reduceLE, Int.reduceLT, Int.reducePow, e1, e2, hI, det_ne]
  refine ⟨_, _, [], ⟨rfl, rfl⟩, ?_⟩; simp [-List.reduceReplicate, LES, invB]
theorem c_impl_isInvertible (m : Nat) (A : List UInt8) (hm : 256 ≤ m) (hm' : m < 512) (hA : A.length = 16) : LC Try.prog 137 [.c (.int .i64 (m)), .a (bs A)] [] (fun v hp => v = .c (.bool (invB m A)) ∧ hp = []) := by
  have hI := backL_len m hA
  refine LC_of (X := XX (fun _ => .nil) (fun _ => []) [25, 33, 34, 61, 62, 82, 87, 112, 119, 141] 0) envOK Try.func137 (by kernel_rfl) (by kernel_rfl) rfl (Nat.le_of_ble_eq_true (by kernel_rfl)) ?_
  simp only [kFun, Try.f137, List.length_nil, List.length_cons, Nat.sub_zero, Nat.reduceSub, Nat.reduceAdd, List.nil_append, List.cons_append, List.replicate_succ, List.replicate_zero]
  simp only [XX, ↓VC, VP, TT, List.getElem?_toArray, Nat.reduceEqDiff, reduceCtorEq, Nat.reduceAdd, Nat.reduceSub, Nat.reduceLT, Nat.reduceMul, Nat.reducePow, Nat.reduceLeDiff, Int.reduceToNat, Int.reduceLE, Int.reduceLT, Int.reducePow, hA]
  refine kCall_val (c_impl_invert m A hm hm' hA) (by rfl) [] (by simp [CALL]) (by simp [CALL, cellsAt]) (by simp [CALL]) (by simp [okL_bs]) ?_
  have e1 : (invM m A (unP 4)).2 = backL m A := rfl
  have e2 : (invM m A (unP 4)).1 = detL m A := rfl
  simp only [CALL, ↓VC, VP, TT, List.getElem?_toArray, Nat.reduceEqDiff, reduceCtorEq, Nat.reduceAdd, Nat.reduceSub, Nat.reduceLT, Nat.reduceMul, Nat.reducePow, Nat.reduceLeDiff, Int.reduceToNat, Int.reduceLE, Int.reduceLT, Int.reducePow, e1, e2, hI, det_ne]
  refine ⟨_, _, [], ⟨rfl, rfl⟩, ?_⟩; simp [-List.reduceReplicate, LES, invB]
/-- Is it a cipher? -/
def cipB (z : Int) (box A pl : List UInt8) (n : Int) : Bool := fieldB z && (permB box && (invB z A && (plcB pl && decide (1 ≤ n ∧ n ≤ 20))))
/-- What a cipher's parts are. -/
theorem cipB_spec {z : Int} {box A pl : List UInt8} {n : Int} (hp : pl.length = 16) (h : cipB z box A pl n = true) : ∃ m k : Nat, z = m ∧ n = k ∧ 256 ≤ m ∧ m < 512 ∧ pl16 pl ∧ 1 ≤ k ∧ k ≤ 20 := by
  unfold cipB at h
  simp only [Bool.and_eq_true, decide_eq_true_eq] at h
  obtain ⟨m, rfl, h1, h2⟩ := fieldB_spec h.1
  exact ⟨m, n.toNat, rfl, by omega, h1, h2, plcB_pl16 hp h.2.2.2.1, by omega, by omega⟩
end Go.Proofs.Ytapagcnipdpfiaa
