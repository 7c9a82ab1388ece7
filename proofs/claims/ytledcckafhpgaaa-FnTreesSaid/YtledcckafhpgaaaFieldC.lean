import Derived.Test.YtledcckafhpgaaaField
/- Which numbers are fields: both ways of looking give the same answer. -/
set_option linter.unusedSimpArgs false
set_option linter.unusedVariables false
namespace Go.Proofs.Ytledcckafhpgaaa
open Go Go.Vc
set_option maxRecDepth 10000
def lenB : Nat → Nat → Nat
  | 0, _ => 0
  | k + 1, n => if n = 0 then 0 else 1 + lenB k (n / 2)
theorem lenB_zero : ∀ k, lenB k 0 = 0
  | 0 => rfl
  | k + 1 => by simp [lenB]
def restS (b : Nat) : Nat → Nat → Nat
  | 0, a => a
  | k + 1, a => if lenB 10 a < lenB 10 b then a else restS b k (a ^^^ (b <<< (lenB 10 a - lenB 10 b)))
theorem restS_tab : ((List.range 32).all fun b => (List.range 512).all fun a => decide (b < 2) || decide (lenB 10 a < lenB 10 b) ||
    (decide (lenB 10 (a ^^^ (b <<< (lenB 10 a - lenB 10 b))) < lenB 10 a) && decide (a ^^^ (b <<< (lenB 10 a - lenB 10 b)) < 512) && decide (lenB 10 a - lenB 10 b ≤ 9) && decide (b <<< (lenB 10 a - lenB 10 b) < 512))) = true := by decide +kernel
theorem restS_step (b : Nat) (hb : b < 32) (hb' : 2 ≤ b) (a : Nat) (ha : a < 512) (h : lenB 10 b ≤ lenB 10 a) : lenB 10 (a ^^^ (b <<< (lenB 10 a - lenB 10 b))) < lenB 10 a ∧ a ^^^ (b <<< (lenB 10 a - lenB 10 b)) < 512 ∧ lenB 10 a - lenB 10 b ≤ 9 ∧ b <<< (lenB 10 a - lenB 10 b) < 512 := by
  have h1 := List.all_eq_true.1 restS_tab b (by simpa using hb)
  have h2 := List.all_eq_true.1 h1 a (by simpa using ha)
  simp only [Bool.or_eq_true, Bool.and_eq_true, decide_eq_true_eq] at h2
  omega
theorem restS_done {b a : Nat} (h : lenB 10 a < lenB 10 b) : ∀ k, restS b k a = a
  | 0 => rfl
  | k + 1 => by rw [restS, if_pos h]
def fieldS (m : Nat) : Bool := (List.range 30).all fun k => restS (k + 2) 10 m != 0
def fieldI (m : Nat) : Bool := (List.range 30).all fun k => resP (k + 2) (Nat.log2 (k + 2)) m (16 - Nat.log2 (k + 2)) != 0
theorem fields_eq : ∀ m, m < 512 → 256 ≤ m → fieldI m = fieldS m := by decide +kernel
def fieldB (m : Int) : Bool := decide (256 ≤ m ∧ m ≤ 511) && fieldS m.toNat
theorem fieldB_spec {m : Int} (h : fieldB m = true) : ∃ k : Nat, m = k ∧ 256 ≤ k ∧ k < 512 := by
  unfold fieldB at h
  rw [Bool.and_eq_true, decide_eq_true_eq] at h
  exact ⟨m.toNat, by omega, by omega, by omega⟩
theorem c_spec_l01In (n lo hi : Int) : LC Try.prog 30 [.c (.int .i64 (n)), .c (.int .i64 (lo)), .c (.int .i64 (hi))] [] (fun v hp => v = .c (.bool (decide (lo ≤ n ∧ n ≤ hi))) ∧ hp = []) := by
  refine LC_of (X := XX (fun _ => .nil) (fun _ => []) [22, 24, 25, 36, 42, 47, 90] 0) envOK Try.func30 (by kernel_rfl) (by kernel_rfl) rfl (Nat.le_of_ble_eq_true (by kernel_rfl)) ?_
  simp only [kFun, Try.f30, List.length_nil, List.length_cons, Nat.sub_zero, Nat.reduceSub, Nat.reduceAdd, List.nil_append, List.cons_append, List.replicate_succ, List.replicate_zero]
  simp only [XX, ↓VC, VP, TT, List.getElem?_toArray, Nat.reduceEqDiff, reduceCtorEq, Nat.reduceAdd, Nat.reduceSub, Nat.reduceLT, Nat.reduceMul, Nat.reducePow, Nat.reduceLeDiff, Int.reduceToNat, Int.reduceLE, Int.reduceLT, Int.reducePow]
  refine kGd_split rfl (fun h1 => ?_) (fun h1 => ?_) <;> simp only [decide_eq_true_eq, decide_eq_false_iff_not] at h1 <;> simp only [↓VC, VP, TT, List.getElem?_toArray, Nat.reduceEqDiff, reduceCtorEq, Nat.reduceAdd, Nat.reduceSub, Nat.reduceLT, Nat.reduceMul, Nat.reducePow, Nat.reduceLeDiff, Int.reduceToNat, Int.reduceLE, Int.reduceLT, Int.reducePow]
  · refine ⟨_, _, [], ⟨rfl, rfl⟩, ?_⟩
    rw [show decide (n ≤ hi) = decide (lo ≤ n ∧ n ≤ hi) from decide_eq_decide.2 ⟨fun h => ⟨h1, h⟩, fun h => h.2⟩]
    simp [-List.reduceReplicate, LES]
  · refine ⟨_, _, [], ⟨rfl, rfl⟩, ?_⟩
    rw [show decide (lo ≤ n ∧ n ≤ hi) = false from decide_eq_false fun h => h1 h.1]
    simp [-List.reduceReplicate, LES]
theorem c_impl_inRange (n lo hi : Int) : LC Try.prog 26 [.c (.int .i64 (n)), .c (.int .i64 (lo)), .c (.int .i64 (hi))] [] (fun v hp => v = .c (.bool (decide (lo ≤ n ∧ n ≤ hi))) ∧ hp = []) := by
  refine LC_of (X := XX (fun _ => .nil) (fun _ => []) [22, 24, 25, 36, 42, 47, 90] 0) envOK Try.func26 (by kernel_rfl) (by kernel_rfl) rfl (Nat.le_of_ble_eq_true (by kernel_rfl)) ?_
  simp only [kFun, Try.f26, List.length_nil, List.length_cons, Nat.sub_zero, Nat.reduceSub, Nat.reduceAdd, List.nil_append, List.cons_append, List.replicate_succ, List.replicate_zero]
  simp only [XX, ↓VC, VP, TT, List.getElem?_toArray, Nat.reduceEqDiff, reduceCtorEq, Nat.reduceAdd, Nat.reduceSub, Nat.reduceLT, Nat.reduceMul, Nat.reducePow, Nat.reduceLeDiff, Int.reduceToNat, Int.reduceLE, Int.reduceLT, Int.reducePow]
  refine kGd_split rfl (fun h1 => ?_) (fun h1 => ?_) <;> simp only [decide_eq_true_eq, decide_eq_false_iff_not] at h1 <;> simp only [↓VC, VP, TT, List.getElem?_toArray, Nat.reduceEqDiff, reduceCtorEq, Nat.reduceAdd, Nat.reduceSub, Nat.reduceLT, Nat.reduceMul, Nat.reducePow, Nat.reduceLeDiff, Int.reduceToNat, Int.reduceLE, Int.reduceLT, Int.reducePow]
  · refine ⟨_, _, [], ⟨rfl, rfl⟩, ?_⟩
    rw [show decide (n ≤ hi) = decide (lo ≤ n ∧ n ≤ hi) from decide_eq_decide.2 ⟨fun h => ⟨h1, h⟩, fun h => h.2⟩]
    simp [-List.reduceReplicate, LES]
  · refine ⟨_, _, [], ⟨rfl, rfl⟩, ?_⟩
    rw [show decide (lo ≤ n ∧ n ≤ hi) = false from decide_eq_false fun h => h1 h.1]
    simp [-List.reduceReplicate, LES]
theorem allS {p : Nat → Bool} {n : Nat} {i : Nat} (hi : i < n) (h : p i = false) : (List.range n).all p = false := by
  rw [List.all_eq_false]; exact ⟨i, by simpa using hi, by simp [h]⟩
theorem log_tab : ∀ g, g ≤ 4 → ∀ d, d < 32 → 2 ^ g ≤ d → d < 2 ^ (g + 1) → Nat.log2 d = g := by decide +kernel
theorem pow_tab : ∀ g, g ≤ 5 → 2 ^ g ≤ 32 := by decide
end Go.Proofs.Ytledcckafhpgaaa
