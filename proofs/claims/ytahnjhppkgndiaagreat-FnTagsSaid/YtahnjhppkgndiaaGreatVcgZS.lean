import Derived.Test.YtahnjhppkgndiaaGreatVcgJ
/- Long lists of temporaries, told by their runs: rules that read and write them without going through every slot. -/
set_option linter.unusedSimpArgs false
set_option linter.unusedVariables false
namespace Go.Vc
open Go
section
variable {α : Type} {a v d : α} {n i k : Nat} {l : List α}
theorem sp_setA (h : i < n) : (List.replicate n a ++ l).set i v = List.replicate i a ++ (v :: (List.replicate (n - i - 1) a ++ l)) := by
  apply List.ext_getElem?
  intro j
  rw [List.getElem?_set]
  by_cases e : i = j
  · subst e
    rw [if_pos rfl, if_pos (by simp; omega), List.getElem?_append_right (by simp)]
    simp
  · rw [if_neg e]
    rcases Nat.lt_or_ge j i with g | g
    · rw [List.getElem?_append_left (by simp; omega), List.getElem?_append_left (by simp; omega)]
      simp [List.getElem?_replicate, g, show j < n by omega]
    · rw [List.getElem?_append_right (l₁ := List.replicate i a) (by simp; omega), List.length_replicate, show j - i = (j - i - 1) + 1 by omega, List.getElem?_cons_succ]
      rcases Nat.lt_or_ge j n with g2 | g2
      · rw [List.getElem?_append_left (by simp; omega), List.getElem?_append_left (by simp; omega)]
        simp [List.getElem?_replicate, g2, show j - i - 1 < n - i - 1 by omega]
      · rw [List.getElem?_append_right (by simp; omega), List.getElem?_append_right (by simp; omega)]
        simp only [List.length_replicate]
        congr 1
        omega
theorem sp_setB (h : n ≤ i) : (List.replicate n a ++ l).set i v = List.replicate n a ++ l.set (i - n) v := by
  rw [List.set_append_right _ _ (by simpa using h), List.length_replicate]
theorem sp_set1 (h : i < n) : (List.replicate n a).set i v = List.replicate i a ++ (v :: List.replicate (n - i - 1) a) := by
  have := sp_setA (a := a) (v := v) (l := []) h
  simpa using this
theorem sp_getA (h : i < n) : (List.replicate n a ++ l).getD i d = a := by
  rw [List.getD_eq_getElem?_getD, List.getElem?_append_left (by simpa using h)]
  simp [h]
theorem sp_getB (h : n ≤ i) : (List.replicate n a ++ l).getD i d = l.getD (i - n) d := by
  rw [List.getD_eq_getElem?_getD, List.getElem?_append_right (by simpa using h), List.length_replicate, List.getD_eq_getElem?_getD]
theorem sp_get1 (h : i < n) : (List.replicate n a).getD i d = a := by
  rw [List.getD_eq_getElem?_getD]
  simp [h]
theorem sp_optA (h : i < n) : (List.replicate n a ++ l)[i]? = some a := by
  rw [List.getElem?_append_left (by simpa using h)]
  simp [h]
theorem sp_optB (h : n ≤ i) : (List.replicate n a ++ l)[i]? = l[i - n]? := by
  rw [List.getElem?_append_right (by simpa using h), List.length_replicate]
theorem sp_opt1 (h : i < n) : (List.replicate n a)[i]? = some a := by simp [h]
theorem sp_dropA (h : k ≤ n) : (List.replicate n a ++ l).drop k = List.replicate (n - k) a ++ l := by
  rw [List.drop_append_of_le_length (by simpa using h), List.drop_replicate]
theorem sp_dropB (h : n < k) : (List.replicate n a ++ l).drop k = l.drop (k - n) := by
  rw [List.drop_append, List.drop_eq_nil_of_le (by simp; omega), List.length_replicate, List.nil_append]
theorem sp_drop1 : (List.replicate n a).drop k = List.replicate (n - k) a := List.drop_replicate
theorem sp_zero : List.replicate 0 a ++ l = l := rfl
theorem sp_zero1 : List.replicate 0 a = [] := rfl
end
theorem sp_leA {σ : List Nat} : ∀ {n : Nat} {tm l : List V}, leTm σ tm (List.replicate n .j ++ l) = (n ≤ tm.length ∧ leTm σ (tm.drop n) l)
  | 0, tm, l => by simp
  | n + 1, [], l => by simp [List.replicate_succ, leTm]
  | n + 1, v :: tm, l => by
    rw [List.replicate_succ, List.cons_append, leTm, sp_leA (n := n) (tm := tm) (l := l), List.length_cons, List.drop_succ_cons]
    simp [leV]
theorem sp_le1 {σ : List Nat} {n : Nat} {tm : List V} : leTm σ tm (List.replicate n .j) = (tm.length = n) := by
  have h := sp_leA (σ := σ) (n := n) (tm := tm) (l := [])
  rw [List.append_nil] at h
  rw [h]
  cases e : tm.drop n with
  | nil =>
    rw [List.drop_eq_nil_iff] at e
    simp only [leTm, and_true]
    exact propext ⟨fun h => by omega, fun h => by omega⟩
  | cons x xs =>
    have : n < tm.length := by
      rcases Nat.lt_or_ge n tm.length with g | g
      · exact g
      · rw [List.drop_eq_nil_of_le g] at e; cases e
    simp only [leTm, and_false]
    exact propext ⟨fun h => h.elim, fun h => by omega⟩
/-- The rules for reading and writing, bundled. -/
theorem SPV : type_of% (
  And.intro @sp_setA <|
  And.intro @sp_setB <|
  And.intro @sp_set1 <|
  And.intro @sp_getA <|
  And.intro @sp_getB <|
  And.intro @sp_get1 <|
  And.intro @sp_optA <|
  And.intro @sp_optB <|
  And.intro @sp_opt1 <|
  And.intro @sp_zero <|
  @sp_zero1) :=
  And.intro @sp_setA <|
  And.intro @sp_setB <|
  And.intro @sp_set1 <|
  And.intro @sp_getA <|
  And.intro @sp_getB <|
  And.intro @sp_get1 <|
  And.intro @sp_optA <|
  And.intro @sp_optB <|
  And.intro @sp_opt1 <|
  And.intro @sp_zero <|
  @sp_zero1
/-- The rules for forgetting, bundled. -/
theorem SPL : type_of% (
  And.intro @sp_leA <|
  And.intro @sp_le1 <|
  And.intro @sp_dropA <|
  And.intro @sp_dropB <|
  And.intro @sp_drop1 <|
  And.intro @sp_zero <|
  @sp_zero1) :=
  And.intro @sp_leA <|
  And.intro @sp_le1 <|
  And.intro @sp_dropA <|
  And.intro @sp_dropB <|
  And.intro @sp_drop1 <|
  And.intro @sp_zero <|
  @sp_zero1
end Go.Vc
