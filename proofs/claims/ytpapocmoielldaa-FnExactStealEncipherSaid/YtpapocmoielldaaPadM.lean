import Derived.Test.YtpapocmoielldaaPadB
/- Padding of messages, both ways: the same bytes. -/
set_option linter.unusedSimpArgs false
set_option linter.unusedVariables false
namespace Go.Proofs.Ytpapocmoielldaa
open Go Go.Vc
theorem one_more128 {A : List UInt8} {r' : Nat} : bs A ++ [V.c (.int .u8 128)] ++ List.replicate r' V.j = bs (A ++ [128]) ++ List.replicate r' V.j := one_moreB (x := 128)
def padMA (l : List UInt8) (j : Nat) : List UInt8 := l ++ 128 :: List.replicate j 0
theorem padMA_len (l : List UInt8) (j : Nat) : (padMA l j).length = l.length + 1 + j := by simp [padMA]; omega
theorem padMA_succ (l : List UInt8) (j : Nat) : padMA l j ++ [0] = padMA l (j + 1) := by
  simp [padMA, List.replicate_succ']
theorem padMA_zero (l : List UInt8) : l ++ [128] = padMA l 0 := rfl
def mz (l : List UInt8) : Nat := (23 - l.length % 16) % 16
theorem mz_spec (l : List UInt8) {j : Nat} (h : j ≤ mz l) (h8 : (l.length + 1 + j) % 16 ≠ 8) : j < mz l := by
  unfold mz at *; omega
theorem mz_done (l : List UInt8) {j : Nat} (h : j ≤ mz l) (h8 : (l.length + 1 + j) % 16 = 8) : j = mz l := by
  unfold mz at *; omega
/-- The first j bytes of a length, the greatest first. -/
def beA (n j : Nat) : List UInt8 := (List.range j).map fun t => UInt8.ofInt ((n : Int).fdiv (2 ^ (8 * (7 - t))))
theorem beA_len (n j : Nat) : (beA n j).length = j := by simp [beA]
theorem beA_succ (n j : Nat) : beA n j ++ [UInt8.ofInt ((n : Int).fdiv (2 ^ (8 * (7 - j))))] = beA n (j + 1) := by simp [beA, List.range_succ]
def padM (l : List UInt8) : List UInt8 := padMA l (mz l) ++ beA l.length 8
theorem padM_len (l : List UInt8) : (padM l).length = l.length + 1 + mz l + 8 := by simp [padM, padMA_len, beA_len]
theorem mz_lt (l : List UInt8) : mz l < 16 := by unfold mz; omega
theorem and255 {m : Int} (h : 0 ≤ m) (h' : m < 9223372036854775808) : bitI .and .i64 m 255 = m % 256 := by
  obtain ⟨n, rfl⟩ := Int.eq_ofNat_of_zero_le h
  show IntKind.i64.wrap (((BitVec.ofInt 64 (n : Int) &&& BitVec.ofInt 64 255).toNat : Nat) : Int) = _
  have e1 : (BitVec.ofInt 64 (n : Int) &&& BitVec.ofInt 64 255).toNat = n % 256 := by
    rw [BitVec.toNat_and, show (BitVec.ofInt 64 255).toNat = 2 ^ 8 - 1 from rfl, Nat.and_two_pow_sub_one_eq_mod]
    simp
  rw [e1, wrap_i64 (by omega) (by omega)]; omega
theorem byte_of (n k : Nat) (hn : n < 9223372036854775808) : IntKind.u8.wrap (bitI .and .i64 ((n : Int).fdiv (2 ^ k)) 255) = ((UInt8.ofInt ((n : Int).fdiv (2 ^ k))).toNat : Int) := by
  have e : (n : Int).fdiv (2 ^ k) = ((n / 2 ^ k : Nat) : Int) := by
    rw [Int.fdiv_eq_ediv_of_nonneg _ (Int.le_of_lt (Int.pow_pos (by omega)))]; norm_cast
  have h2 : n / 2 ^ k ≤ n := Nat.div_le_self _ _
  rw [e]
  generalize n / 2 ^ k = q at h2
  rw [and255 (by omega) (by omega), wrap_u8]
  rw [ofInt_eq (a := (q : Int) % 256) (b := (q : Int)) (by omega)]
set_option maxRecDepth 10000
def padMR (l : List UInt8) : Except Int (List UInt8) := if l.length ≤ 2000 then .ok (padM l) else .error 2
theorem padMR_len {l out : List UInt8} (hm : l.length ≤ 1048576) (h : padMR l = .ok out) : out.length ≤ 4194304 := by
  unfold padMR at h
  split at h
  · cases h; rw [padM_len]; have := mz_lt l; omega
  · cases h
end Go.Proofs.Ytpapocmoielldaa
