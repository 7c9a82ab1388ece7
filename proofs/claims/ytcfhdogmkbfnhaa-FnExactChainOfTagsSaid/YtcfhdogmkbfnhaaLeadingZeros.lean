import Derived.Test.YtcfhdogmkbfnhaaByteS
/- 'LeadingZeros' of the program and of the reference compute the same number. -/
set_option linter.unusedSimpArgs false
set_option linter.unusedVariables false
namespace Go.Proofs.Ytcfhdogmkbfnhaa
open Go Go.Vc
def lenF : Nat → Nat → Nat
  | 0, _ => 0
  | k + 1, n => if n = 0 then 0 else 1 + lenF k (n / 2)
theorem lenF_le : ∀ n, n < 256 → lenF 8 n ≤ 8 := by decide +kernel
def lz (u : UInt8) : Nat := 8 - lenF 8 u.toNat
theorem lz_le (u : UInt8) : lz u ≤ 8 := by unfold lz; omega
theorem len_tab {L : List UInt8} (u : UInt8) (h : ((List.range 256).all fun n => (L.getD n 0).toNat == lenF 8 n) = true) : IntKind.i64.wrap ((L.getD u.toNat 0).toNat : Int) = ((lenF 8 u.toNat : Nat) : Int) := by
  have h1 := List.all_eq_true.1 h u.toNat (by simpa using u.toNat_lt)
  rw [beq_iff_eq] at h1
  have h2 := lenF_le u.toNat u.toNat_lt
  rw [h1, wrap_i64 (by omega) (by omega)]
def zerosL : List UInt8 → Nat
  | [] => 0
  | u :: us => lz u + if u = 0 then zerosL us else 0
theorem zerosL_le : ∀ l : List UInt8, zerosL l ≤ 8 * l.length
  | [] => by simp [zerosL]
  | u :: us => by
    have := lz_le u; have := zerosL_le us
    simp only [zerosL, List.length_cons]; split <;> omega
theorem zerosL_drop {d : List UInt8} {i : Nat} (h : i < d.length) : zerosL (d.drop i) = lz (d.getD i 0) + if d.getD i 0 = 0 then zerosL (d.drop (i + 1)) else 0 := by
  rw [List.drop_eq_getElem_cons h, zerosL]
  simp only [List.getD, List.getElem?_eq_getElem h, Option.getD_some]
theorem bit_and : ∀ n : Nat, n < 256 → ∀ b : Nat, b < 8 → (bitI .and .u8 ((n : Int).fdiv (2 ^ min b 8)) 1 == 1) = (n / 2 ^ b % 2 == 1) := by decide +kernel
theorem bit_top : ∀ n : Nat, n < 256 → ∀ b : Nat, b < 8 → n < 2 ^ (b + 1) → (n / 2 ^ b % 2 == 1) = true → 8 - lenF 8 n = 7 - b ∧ n ≠ 0 := by decide +kernel
theorem bit_not : ∀ n : Nat, n < 256 → ∀ b : Nat, b < 8 → n < 2 ^ (b + 1) → (n / 2 ^ b % 2 == 1) = false → n < 2 ^ b := by decide +kernel
set_option maxRecDepth 10000
end Go.Proofs.Ytcfhdogmkbfnhaa
