import Derived.Test.YtbdnomfcgbmncaaEnv
/- 'AgreeingBits' of the program and of the reference compute the same number. -/
set_option linter.unusedSimpArgs false
set_option linter.unusedVariables false
namespace Go.Proofs.Ytbdnomfcgbmncaa
open Go Go.Vc
def onesF : Nat → Nat → Nat
  | 0, _ => 0
  | k + 1, n => n % 2 + onesF k (n / 2)
theorem onesF_step : ∀ n, n < 256 → onesF 8 n = n % 2 + onesF 8 (n / 2) := by decide +kernel
theorem onesF_le : ∀ n, n < 256 → onesF 8 n ≤ 8 := by decide +kernel
def pop (u : UInt8) : Nat := onesF 8 u.toNat
theorem pop_le (u : UInt8) : pop u ≤ 8 := onesF_le _ u.toNat_lt
theorem wrap_tab {L : List UInt8} (u : UInt8) (h : ((List.range 256).all fun n => (L.getD n 0).toNat == onesF 8 n) = true) : IntKind.i64.wrap ((L.getD u.toNat 0).toNat : Int) = ((pop u : Nat) : Int) := by
  have h1 := List.all_eq_true.1 h u.toNat (by simpa using u.toNat_lt)
  rw [beq_iff_eq] at h1
  have h2 := onesF_le u.toNat u.toNat_lt
  rw [h1, wrap_i64 (by omega) (by omega)]; rfl
theorem fill_step {a : List UInt8} {i n : Nat} (h : i < n) (ha : i < a.length) : (a.take i ++ List.replicate (n - i) 0).set i (a.getD i 0) = a.take (i + 1) ++ List.replicate (n - (i + 1)) 0 := by
  have e : a.take (i + 1) = a.take i ++ [a.getD i 0] := by
    rw [List.take_add_one, List.getElem?_eq_getElem ha]
    simp only [Option.toList, List.getD, List.getElem?_eq_getElem ha, Option.getD_some]
  rw [show n - i = (n - (i + 1)) + 1 by omega, List.replicate_succ, List.set_append_right _ _ (by rw [List.length_take]; omega), List.length_take, Nat.min_eq_left (Nat.le_of_lt ha), Nat.sub_self, List.set_cons_zero, e, List.append_assoc]
  rfl
set_option maxRecDepth 10000
def xorPop (a b : List UInt8) (i : Nat) : Nat := pop (a.getD i 0 ^^^ b.getD i 0)
def agree (a b : List UInt8) : Nat → Int
  | 0 => 256
  | i + 1 => agree a b i - xorPop a b i
theorem agree_le (a b : List UInt8) : ∀ i : Nat, i ≤ 32 → (256 - 8 * ((i : Nat) : Int)) ≤ agree a b i ∧ agree a b i ≤ 256
  | 0, _ => by simp [agree]
  | i + 1, h => by
    have := agree_le a b i (by omega)
    have h2 := pop_le (a.getD i 0 ^^^ b.getD i 0)
    simp only [agree, xorPop]; omega
theorem c_laws_toDigest (a : List UInt8) (ha : a.length = 32) : LC Try.prog 38 [.a (bs a)] [] (fun v hp => v = .a (bs a) ∧ hp = []) := by
  refine LC_of (X := XX (fun _ => .nil) (fun _ => []) [33, 34, 51, 59, 60, 80, 163] 0) envOK Try.func38 (by kernel_rfl) (by kernel_rfl) rfl (Nat.le_of_ble_eq_true (by kernel_rfl)) ?_
  simp only [kFun, Try.f38, List.length_nil, List.length_cons, Nat.sub_zero, Nat.reduceSub, Nat.reduceAdd, List.nil_append, List.cons_append, List.replicate_succ, List.replicate_zero]
  simp only [XX, ↓VC, VP, TT, List.getElem?_toArray, Nat.reduceEqDiff, reduceCtorEq, Nat.reduceAdd, Nat.reduceSub, Nat.reduceLT, Nat.reduceMul, Nat.reducePow, Nat.reduceLeDiff, Int.reduceToNat, Int.reduceLE, Int.reduceLT, Int.reducePow]
  refine kLoop_of (fun i : Nat => ([.a (bs a), .p 0 0, .p 1 0, .p 2 0, .c (.int .i64 i), .j, .j, .j, .j, .j, .j, .j, .j, .j, .j], [⟨true, bs a⟩, ⟨true, bs (List.replicate 32 0)⟩, ⟨true, bs (a.take i ++ List.replicate (32 - i) 0)⟩])) (fun i => 32 - i) (fun i => i ≤ 32) 0 (by omega) ⟨[0, 1, 2], by simp [-List.reduceReplicate, LES]⟩ ?_
  intro i hi
  have hl : (a.take i ++ List.replicate (32 - i) 0).length = 32 := by simp [ha]; omega
  simp only [↓VC, VP, TT, List.getElem?_toArray, Nat.reduceEqDiff, reduceCtorEq, Nat.reduceAdd, Nat.reduceSub, Nat.reduceLT, Nat.reduceMul, Nat.reducePow, Nat.reduceLeDiff, Int.reduceToNat, Int.reduceLE, Int.reduceLT, Int.reducePow, ha, hl]
  refine ⟨fun h => ⟨by omega, by omega, by omega, by omega, i + 1, by omega, by omega, [0, 1, 2], ?_⟩, fun h => ⟨_, _, [], ⟨rfl, rfl⟩, ?_⟩⟩
  · rw [wrap_i64 (by omega) (by omega), fill_step (by omega) (by omega)]
    simp [-List.reduceReplicate, LES]
  · obtain rfl : i = 32 := by omega
    rw [List.take_of_length_le (by omega)]
    simp [-List.reduceReplicate, LES]
end Go.Proofs.Ytbdnomfcgbmncaa
