import Derived.Test.YtledcckafhpgaaaShowM
/- Models: proofs of leaves, growths. -/
set_option linter.unusedSimpArgs false
set_option linter.unusedVariables false
namespace Go.Proofs.Ytledcckafhpgaaa
open Go Go.Vc
/-- How many digests a proof has. -/
def depL (n i : Nat) : Nat :=
  if h : n ≤ 1 then 0 else if i < partN n then depL (partN n) i + 1 else depL (n - partN n) (i - partN n) + 1
termination_by n
decreasing_by all_goals (have := partN_spec (n := n) (by omega); omega)
/-- The proof for a place. -/
def proofL (n i : Nat) (D : List UInt8) : List UInt8 :=
  if h : n ≤ 1 then [] else if i < partN n then proofL (partN n) i (D.take (32 * partN n)) ++ rootL (n - partN n) (D.drop (32 * partN n)) else proofL (n - partN n) (i - partN n) (D.drop (32 * partN n)) ++ rootL (partN n) (D.take (32 * partN n))
termination_by n
decreasing_by all_goals (have := partN_spec (n := n) (by omega); omega)
theorem halves_len {n : Nat} {D : List UInt8} (h : 2 ≤ n) (hD : D.length = 32 * n) : (D.take (32 * partN n)).length = 32 * partN n ∧ (D.drop (32 * partN n)).length = 32 * (n - partN n) := by
  obtain ⟨p1, p2⟩ := partN_spec h
  rw [List.length_take, List.length_drop]; omega
theorem proofL_len (n : Nat) : ∀ i D, D.length = 32 * n → (proofL n i D).length = 32 * depL n i := by
  refine Nat.strongRecOn n ?_
  clear n
  intro n ih i D hD
  rw [proofL, depL]
  by_cases h : n ≤ 1
  · rw [dif_pos h, dif_pos h]; rfl
  · rw [dif_neg h, dif_neg h]
    obtain ⟨p1, p2⟩ := partN_spec (n := n) (by omega)
    obtain ⟨l1, l2⟩ := halves_len (n := n) (by omega) hD
    split
    · rw [List.length_append, ih _ p2 _ _ l1, rootL_len l2]; omega
    · rw [List.length_append, ih _ (by omega) _ _ l2, rootL_len l1]; omega
theorem depL_le (n : Nat) : ∀ i, depL n i ≤ n := by
  refine Nat.strongRecOn n ?_
  clear n
  intro n ih i
  rw [depL]
  by_cases h : n ≤ 1
  · rw [dif_pos h]; omega
  · rw [dif_neg h]
    obtain ⟨p1, p2⟩ := partN_spec (n := n) (by omega)
    split
    · have := ih _ p2 i; omega
    · have := ih (n - partN n) (by omega) (i - partN n); omega
theorem depL_one (i : Nat) : depL 1 i = 0 := by rw [depL]; rfl
theorem proofL_one (i : Nat) (D : List UInt8) : proofL 1 i D = [] := by rw [proofL]; rfl
theorem depL_lt {n i : Nat} (h : 2 ≤ n) (hi : i < partN n) : depL n i = depL (partN n) i + 1 := by rw [depL, dif_neg (by omega), if_pos hi]
theorem depL_ge {n i : Nat} (h : 2 ≤ n) (hi : ¬ i < partN n) : depL n i = depL (n - partN n) (i - partN n) + 1 := by rw [depL, dif_neg (by omega), if_neg hi]
theorem proofL_lt {n i : Nat} {D : List UInt8} (h : 2 ≤ n) (hi : i < partN n) : proofL n i D = proofL (partN n) i (D.take (32 * partN n)) ++ rootL (n - partN n) (D.drop (32 * partN n)) := by rw [proofL, dif_neg (by omega), if_pos hi]
theorem proofL_ge {n i : Nat} {D : List UInt8} (h : 2 ≤ n) (hi : ¬ i < partN n) : proofL n i D = proofL (n - partN n) (i - partN n) (D.drop (32 * partN n)) ++ rootL (partN n) (D.take (32 * partN n)) := by rw [proofL, dif_neg (by omega), if_neg hi]
/-- The growth from the first m to all. -/
def growL (n m : Nat) (w : Bool) (D : List UInt8) : List UInt8 :=
  if h : n ≤ m ∨ n ≤ 1 then (if w then [] else rootL n D) else if m ≤ partN n then growL (partN n) m w (D.take (32 * partN n)) ++ rootL (n - partN n) (D.drop (32 * partN n)) else growL (n - partN n) (m - partN n) false (D.drop (32 * partN n)) ++ rootL (partN n) (D.take (32 * partN n))
termination_by n
decreasing_by all_goals (have := partN_spec (n := n) (by omega); omega)
def gdepL (n m : Nat) (w : Bool) : Nat :=
  if h : n ≤ m ∨ n ≤ 1 then (if w then 0 else 1) else if m ≤ partN n then gdepL (partN n) m w + 1 else gdepL (n - partN n) (m - partN n) false + 1
termination_by n
decreasing_by all_goals (have := partN_spec (n := n) (by omega); omega)
theorem growL_len (n : Nat) : ∀ m w D, D.length = 32 * n → (growL n m w D).length = 32 * gdepL n m w := by
  refine Nat.strongRecOn n ?_
  clear n
  intro n ih m w D hD
  rw [growL, gdepL]
  by_cases h : n ≤ m ∨ n ≤ 1
  · rw [dif_pos h, dif_pos h]; split
    · rfl
    · rw [rootL_len hD]
  · rw [dif_neg h, dif_neg h]
    obtain ⟨p1, p2⟩ := partN_spec (n := n) (by omega)
    obtain ⟨l1, l2⟩ := halves_len (n := n) (by omega) hD
    split
    · rw [List.length_append, ih _ p2 _ _ _ l1, rootL_len l2]; omega
    · rw [List.length_append, ih _ (by omega) _ _ _ l2, rootL_len l1]; omega
theorem gdepL_le (n : Nat) : ∀ m w, gdepL n m w ≤ n + 1 := by
  refine Nat.strongRecOn n ?_
  clear n
  intro n ih m w
  rw [gdepL]
  by_cases h : n ≤ m ∨ n ≤ 1
  · rw [dif_pos h]; split <;> omega
  · rw [dif_neg h]
    obtain ⟨p1, p2⟩ := partN_spec (n := n) (by omega)
    split
    · have := ih _ p2 m w; omega
    · have := ih (n - partN n) (by omega) (m - partN n) false; omega
theorem growL_all {n : Nat} {w : Bool} {D : List UInt8} : growL n n w D = if w then [] else rootL n D := by rw [growL, dif_pos (Or.inl (Nat.le_refl _))]
theorem gdepL_all {n : Nat} {w : Bool} : gdepL n n w = if w then 0 else 1 := by rw [gdepL, dif_pos (Or.inl (Nat.le_refl _))]
theorem growL_lt {n m : Nat} {w : Bool} {D : List UInt8} (h : 1 ≤ m) (hn : m < n) (hi : m ≤ partN n) : growL n m w D = growL (partN n) m w (D.take (32 * partN n)) ++ rootL (n - partN n) (D.drop (32 * partN n)) := by rw [growL, dif_neg (by omega), if_pos hi]
theorem growL_ge {n m : Nat} {w : Bool} {D : List UInt8} (h : 1 ≤ m) (hn : m < n) (hi : ¬ m ≤ partN n) : growL n m w D = growL (n - partN n) (m - partN n) false (D.drop (32 * partN n)) ++ rootL (partN n) (D.take (32 * partN n)) := by rw [growL, dif_neg (by omega), if_neg hi]
theorem gdepL_lt {n m : Nat} {w : Bool} (h : 1 ≤ m) (hn : m < n) (hi : m ≤ partN n) : gdepL n m w = gdepL (partN n) m w + 1 := by rw [gdepL, dif_neg (by omega), if_pos hi]
theorem gdepL_ge {n m : Nat} {w : Bool} (h : 1 ≤ m) (hn : m < n) (hi : ¬ m ≤ partN n) : gdepL n m w = gdepL (n - partN n) (m - partN n) false + 1 := by rw [gdepL, dif_neg (by omega), if_neg hi]
/-- What a growth shows; 'pk' picks the digest where the growth should be one digest. -/
def grownL (pk : List UInt8 → Nat → List UInt8) (d : List UInt8) : Nat → Nat → Nat → Bool → List UInt8 → List UInt8 × List UInt8 × Bool
  | 0, m, n, w, _ => if m = n ∧ w = true then (d, d, true) else (List.replicate 32 0, List.replicate 32 0, false)
  | q + 1, m, n, w, P =>
    if m = n ∧ w = true then (d, d, false)
    else if m = n then (pk P q, pk P q, decide (q = 0))
    else if m ≤ partN n then ((grownL pk d q m (partN n) w (P.take (32 * q))).1, nodeL (grownL pk d q m (partN n) w (P.take (32 * q))).2.1 (dgA P q), (grownL pk d q m (partN n) w (P.take (32 * q))).2.2)
    else (nodeL (dgA P q) (grownL pk d q (m - partN n) (n - partN n) false (P.take (32 * q))).1, nodeL (dgA P q) (grownL pk d q (m - partN n) (n - partN n) false (P.take (32 * q))).2.1, (grownL pk d q (m - partN n) (n - partN n) false (P.take (32 * q))).2.2)
theorem grownL_len {pk : List UInt8 → Nat → List UInt8} {d : List UInt8} (hd : d.length = 32) : ∀ q m n w P, P.length = 32 * q → (∀ q P, P.length = 32 * (q + 1) → (pk P q).length = 32) → (grownL pk d q m n w P).1.length = 32 ∧ (grownL pk d q m n w P).2.1.length = 32
  | 0, m, n, w, _, _, _ => by rw [grownL]; split <;> simp [hd]
  | q + 1, m, n, w, P, hP, hk => by
    have hl : (P.take (32 * q)).length = 32 * q := by rw [List.length_take]; omega
    rw [grownL]; split
    · simp [hd]
    · split
      · simp [hk q P hP]
      · split
        · exact ⟨(grownL_len hd q _ _ _ _ hl hk).1, nodeL_len _ _⟩
        · exact ⟨nodeL_len _ _, nodeL_len _ _⟩
def pkS (P : List UInt8) (q : Nat) : List UInt8 := dgA P q
def pkI (P : List UInt8) (_ : Nat) : List UInt8 := dgA P 0
/-- Both agree in whether it shows roots, and in the roots if it does. -/
theorem grownL_same {d : List UInt8} : ∀ q m n w P, (grownL pkS d q m n w P).2.2 = (grownL pkI d q m n w P).2.2 ∧ ((grownL pkS d q m n w P).2.2 = true → grownL pkS d q m n w P = grownL pkI d q m n w P)
  | 0, m, n, w, P => by rw [grownL, grownL]; exact ⟨rfl, fun _ => rfl⟩
  | q + 1, m, n, w, P => by
    rw [grownL, grownL]
    split
    · exact ⟨rfl, fun _ => rfl⟩
    · split
      · refine ⟨rfl, fun h => ?_⟩
        simp only [decide_eq_true_eq] at h
        subst h; rfl
      · split
        · obtain ⟨h1, h2⟩ := grownL_same (d := d) q m (partN n) w (P.take (32 * q))
          exact ⟨h1, fun h => by simp only at h; rw [h2 h]⟩
        · obtain ⟨h1, h2⟩ := grownL_same (d := d) q (m - partN n) (n - partN n) false (P.take (32 * q))
          exact ⟨h1, fun h => by simp only at h; rw [h2 h]⟩
/-- A growth that shows roots is not longer than the tree is deep, and one more. -/
theorem grownL_deep {pk : List UInt8 → Nat → List UInt8} {d : List UInt8} : ∀ q m n w P e, 1 ≤ m → m ≤ n → n ≤ 2 ^ e → (grownL pk d q m n w P).2.2 = true → q ≤ e + 1
  | 0, _, _, _, _, _, _, _, _, _ => Nat.zero_le _
  | q + 1, m, n, w, P, e, h1, hmn, he, h => by
    rw [grownL] at h
    split at h
    · cases h
    · split at h
      · simp only [decide_eq_true_eq] at h; omega
      · rename_i hn hn2
        obtain ⟨p1, p2⟩ := partN_spec (n := n) (by omega)
        cases e with
        | zero => simp at he; omega
        | succ e =>
          obtain ⟨q1, q2⟩ := partN_le (by omega) he
          split at h
          · exact Nat.succ_le_succ (grownL_deep q _ _ _ _ e h1 (by omega) q1 h)
          · exact Nat.succ_le_succ (grownL_deep q _ _ _ _ e (by omega) (by omega) q2 h)
end Go.Proofs.Ytledcckafhpgaaa
