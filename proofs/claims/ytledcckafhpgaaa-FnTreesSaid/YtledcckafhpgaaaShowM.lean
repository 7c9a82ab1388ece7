import Derived.Test.YtledcckafhpgaaaDigS
import Derived.Test.YtledcckafhpgaaaFieldC
/- What a proof shows; the depth of halvings. -/
set_option linter.unusedSimpArgs false
set_option linter.unusedVariables false
namespace Go.Proofs.Ytledcckafhpgaaa
open Go Go.Vc
set_option maxRecDepth 10000
set_option maxHeartbeats 4000000
theorem partF_pow (n : Nat) : ∀ f k, (∃ e, k = 2 ^ e) → n ≤ k + f → (1 ≤ k) → (k < n) → (∃ e, partF n f k = 2 ^ e) ∧ n ≤ 2 * partF n f k
  | 0, k, h, h1, h2, h3 => by omega
  | f + 1, k, h, h1, h2, h3 => by
    rw [partF]; split
    · obtain ⟨e, rfl⟩ := h
      exact partF_pow n f _ ⟨e + 1, by rw [Nat.pow_succ, Nat.mul_comm]⟩ (by omega) (by omega) (by assumption)
    · exact ⟨h, by omega⟩
theorem partN_pow {n : Nat} (h : 2 ≤ n) : (∃ e, partN n = 2 ^ e) ∧ n ≤ 2 * partN n := partF_pow n n 1 ⟨0, rfl⟩ (by omega) (by omega) (by omega)
theorem partN_le {n e : Nat} (h : 2 ≤ n) (he : n ≤ 2 ^ (e + 1)) : partN n ≤ 2 ^ e ∧ n - partN n ≤ 2 ^ e := by
  obtain ⟨⟨d, hd⟩, h2⟩ := partN_pow h
  obtain ⟨p1, p2⟩ := partN_spec h
  have h3 : 2 ^ d < 2 ^ (e + 1) := by omega
  have h4 : d < e + 1 := (Nat.pow_lt_pow_iff_right (by omega)).1 h3
  have h5 : 2 ^ d ≤ 2 ^ e := Nat.pow_le_pow_right (by omega) (by omega)
  rw [Nat.pow_succ] at he
  omega
/-- What a proof shows: the root, and whether it shows one. -/
def showL (d : List UInt8) : Nat → Nat → Nat → List UInt8 → List UInt8 × Bool
  | 0, _, n, _ => if n = 1 then (d, true) else (List.replicate 32 0, false)
  | m + 1, i, n, P => if n = 1 then (d, false) else if i < partN n then (nodeL (showL d m i (partN n) (P.take (32 * m))).1 (dgA P m), (showL d m i (partN n) (P.take (32 * m))).2) else (nodeL (dgA P m) (showL d m (i - partN n) (n - partN n) (P.take (32 * m))).1, (showL d m (i - partN n) (n - partN n) (P.take (32 * m))).2)
theorem showL_len {d : List UInt8} (hd : d.length = 32) : ∀ m i n P, (showL d m i n P).1.length = 32
  | 0, _, n, _ => by rw [showL]; split; exact hd; simp
  | m + 1, i, n, P => by
    rw [showL]; split
    · exact hd
    · split <;> exact nodeL_len _ _
/-- A proof that shows a root is no longer than the tree is deep. -/
theorem showL_deep {d : List UInt8} : ∀ m i n P e, 1 ≤ n → n ≤ 2 ^ e → (showL d m i n P).2 = true → m ≤ e
  | 0, _, _, _, _, _, _, _ => Nat.zero_le _
  | m + 1, i, n, P, e, h1, he, h => by
    rw [showL] at h
    split at h
    · cases h
    · rename_i hn
      obtain ⟨p1, p2⟩ := partN_spec (n := n) (by omega)
      cases e with
      | zero => simp at he; omega
      | succ e =>
        obtain ⟨q1, q2⟩ := partN_le (by omega) he
        split at h
        · exact Nat.succ_le_succ (showL_deep m _ _ _ e p1 q1 h)
        · exact Nat.succ_le_succ (showL_deep m _ _ _ e (by omega) q2 h)
end Go.Proofs.Ytledcckafhpgaaa
