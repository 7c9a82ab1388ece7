import Derived.Test.YtpapocmoielldaaEnv
/- 'StartOfDigest' of the program and of the reference compute the same digest. -/
set_option linter.unusedSimpArgs false
set_option linter.unusedVariables false
namespace Go.Proofs.Ytpapocmoielldaa
open Go Go.Vc
def startL (i : Nat) : List UInt8 := (List.range 32).map fun j => if j < i then UInt8.ofInt (17 * j) else 0
theorem startL_len (i : Nat) : (startL i).length = 32 := by simp [startL]
theorem startL_zero : List.replicate 32 0 = startL 0 := by decide
theorem startL_succ {i : Nat} (h : i < 32) : (startL i).set i (UInt8.ofInt (17 * i)) = startL (i + 1) := by
  apply List.ext_getElem (by simp [startL])
  intro j h1 h2
  simp [startL] at h1 h2
  simp only [startL, List.getElem_set, List.getElem_map, List.getElem_range]
  split <;> rename_i e
  · subst e; simp
  · simp only [show (j < i + 1) = (j < i) from propext (by omega)]
theorem take_succ_eq {a b : List UInt8} {i : Nat} (ha : i < a.length) (hb : i < b.length) (h : a.take i = b.take i) (e : a.getD i 0 = b.getD i 0) : a.take (i + 1) = b.take (i + 1) := by
  rw [List.take_add_one, List.take_add_one, h]
  simp only [List.getD, List.getElem?_eq_getElem ha, List.getElem?_eq_getElem hb, Option.getD_some] at e ⊢
  rw [e]
theorem ne_of_getD {a b : List UInt8} {i : Nat} (h : a.getD i 0 ≠ b.getD i 0) : (a == b) = false := by
  simp only [beq_eq_false_iff_ne]
  intro e; exact h (by rw [e])
set_option maxRecDepth 10000
end Go.Proofs.Ytpapocmoielldaa
