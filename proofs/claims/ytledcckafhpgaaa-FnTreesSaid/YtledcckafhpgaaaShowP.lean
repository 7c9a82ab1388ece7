import Derived.Test.YtledcckafhpgaaaIsProof
import Derived.Test.YtledcckafhpgaaaProofM
/- A proof shows the root of the list with the leaf at its place. -/
set_option linter.unusedSimpArgs false
set_option linter.unusedVariables false
namespace Go.Proofs.Ytledcckafhpgaaa
open Go Go.Vc
set_option maxRecDepth 10000
theorem splB_get {D d : List UInt8} {o k : Nat} (h : o + d.length ≤ D.length) : (splB D o d)[k]? = if k < o then D[k]? else if k < o + d.length then d[k - o]? else D[k]? := by
  unfold splB
  have h1 : (D.take o).length = o := by rw [List.length_take]; omega
  rcases Nat.lt_or_ge k o with h2 | h2
  · rw [if_pos h2, List.append_assoc, List.getElem?_append_left (by omega), List.getElem?_take, if_pos h2]
  · rw [if_neg (by omega)]
    rcases Nat.lt_or_ge k (o + d.length) with h3 | h3
    · rw [if_pos h3, List.append_assoc, List.getElem?_append_right (by omega), h1, List.getElem?_append_left (by omega)]
    · rw [if_neg (by omega), List.getElem?_append_right (by rw [List.length_append, h1]; omega), List.length_append, h1, List.getElem?_drop]
      congr 1; omega
theorem splB_length {D d : List UInt8} {o : Nat} (h : o + d.length ≤ D.length) : (splB D o d).length = D.length := by
  unfold splB
  rw [List.length_append, List.length_append, List.length_take, List.length_drop]; omega
theorem splB_take_in {D d : List UInt8} {o p : Nat} (h : o + d.length ≤ p) (hp : p ≤ D.length) : (splB D o d).take p = splB (D.take p) o d := by
  apply List.ext_getElem?
  intro k
  rw [List.getElem?_take, splB_get (by omega), splB_get (by rw [List.length_take]; omega), List.getElem?_take]
  split
  · rfl
  · rw [if_neg (by omega), if_neg (by omega)]
theorem splB_drop_in {D d : List UInt8} {o p : Nat} (h : o + d.length ≤ p) (hp : p ≤ D.length) : (splB D o d).drop p = D.drop p := by
  apply List.ext_getElem?
  intro k
  rw [List.getElem?_drop, splB_get (by omega), List.getElem?_drop, if_neg (by omega), if_neg (by omega)]
theorem splB_take_out {D d : List UInt8} {o p : Nat} (h : p ≤ o) (hp : o + d.length ≤ D.length) : (splB D o d).take p = D.take p := by
  apply List.ext_getElem?
  intro k
  rw [List.getElem?_take, splB_get hp, List.getElem?_take]
  split
  · rw [if_pos (by omega)]
  · rfl
theorem splB_drop_out {D d : List UInt8} {o p : Nat} (h : p ≤ o) (hp : o + d.length ≤ D.length) : (splB D o d).drop p = splB (D.drop p) (o - p) d := by
  apply List.ext_getElem?
  intro k
  rw [List.getElem?_drop, splB_get hp, splB_get (by rw [List.length_drop]; omega), List.getElem?_drop]
  rcases Nat.lt_or_ge (p + k) o with h2 | h2
  · rw [if_pos h2, if_pos (by omega)]
  · rw [if_neg (show ¬ p + k < o by omega), if_neg (show ¬ k < o - p by omega)]
    rcases Nat.lt_or_ge (p + k) (o + d.length) with h3 | h3
    · rw [if_pos h3, if_pos (show k < o - p + d.length by omega)]; congr 1; omega
    · rw [if_neg (show ¬ p + k < o + d.length by omega), if_neg (show ¬ k < o - p + d.length by omega)]
theorem splB_dgA {n i : Nat} {D : List UInt8} (hD : D.length = 32 * n) (h : i < n) : splB D (32 * i) (dgA D i) = D := by
  have hl := dgA_len hD h
  apply List.ext_getElem?
  intro k
  rw [splB_get (by omega), hl]
  split
  · rfl
  · split
    · unfold dgA
      rw [List.getElem?_take, if_pos (by omega), List.getElem?_drop]; congr 1; omega
    · rfl
theorem dgA_snocP {A B : List UInt8} {q : Nat} (hA : A.length = 32 * q) (hB : B.length = 32) : dgA (A ++ B) q = B ∧ (A ++ B).take (32 * q) = A := by
  refine ⟨?_, by rw [← hA, List.take_left']; rfl⟩
  unfold dgA
  rw [← hA, List.drop_left' rfl, ← hB, List.take_length]
theorem show_proofL {d : List UInt8} (hd : d.length = 32) (n : Nat) : ∀ (i : Nat) (D : List UInt8), D.length = 32 * n → 1 ≤ n → i < n → showL d (depL n i) i n (proofL n i D) = (rootL n (splB D (32 * i) d), true) := by
  refine Nat.strongRecOn n ?_
  clear n
  intro n ih i D hD h1 hi
  rcases Nat.lt_or_ge 1 n with h | h
  · have hn2 : 2 ≤ n := h
    obtain ⟨p1, p2⟩ := partN_spec hn2
    obtain ⟨l1, l2⟩ := halves_len hn2 hD
    by_cases hp : i < partN n
    · obtain ⟨e1, e2⟩ := dgA_snocP (q := depL (partN n) i) (proofL_len (partN n) i _ l1) (rootL_len l2)
      rw [depL_lt hn2 hp, proofL_lt hn2 hp, showL, if_neg (by omega), if_pos hp, e1, e2, ih (partN n) p2 i _ l1 p1 hp, rootL_two hn2, splB_take_in (by omega) (by omega), splB_drop_in (by omega) (by omega)]
    · obtain ⟨e1, e2⟩ := dgA_snocP (q := depL (n - partN n) (i - partN n)) (proofL_len (n - partN n) (i - partN n) _ l2) (rootL_len l1)
      rw [depL_ge hn2 hp, proofL_ge hn2 hp, showL, if_neg (by omega), if_neg hp, e1, e2, ih (n - partN n) (by omega) (i - partN n) _ l2 (by omega) (by omega), rootL_two hn2, splB_take_out (by omega) (by omega), splB_drop_out (by omega) (by omega), show 32 * i - 32 * partN n = 32 * (i - partN n) by omega]
  · obtain rfl : n = 1 := by omega
    obtain rfl : i = 0 := by omega
    rw [depL_one, proofL_one, showL, if_pos rfl, rootL_one, Nat.mul_zero]
    have e : (splB D 0 d).take 32 = d := by
      unfold splB
      rw [List.take_zero, List.nil_append, ← hd, List.take_left']
      rfl
    rw [e]
/-- Whether a proof shows r for the leaf d. -/
theorem isProof_proofL {d r : List UInt8} (hd : d.length = 32) {n i : Nat} {D : List UInt8} (hD : D.length = 32 * n) (h1 : 1 ≤ n) (hn : n ≤ 64) (hi : i < n) : isProofB r d (i : Int) (n : Int) (depL n i) (proofL n i D) = (rootL n (splB D (32 * i) d) == r) := by
  rw [ip_in h1 hn hi, show_proofL hd n i D hD h1 hi, Bool.true_and]
end Go.Proofs.Ytledcckafhpgaaa
