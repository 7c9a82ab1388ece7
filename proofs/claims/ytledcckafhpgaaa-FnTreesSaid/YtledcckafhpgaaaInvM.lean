import Derived.Test.YtledcckafhpgaaaListsM
/- A matrix over a field reduced to the unit matrix: the steps. No program in sight. -/
set_option linter.unusedSimpArgs false
set_option linter.unusedVariables false
namespace Go.Proofs.Ytledcckafhpgaaa
open Go Go.Vc
def rowG (a : List UInt8) (i : Nat) : List UInt8 := (a.drop (i * 4)).take 4
theorem rowG_len {a : List UInt8} {i : Nat} (ha : a.length = 16) (hi : i < 4) : (rowG a i).length = 4 := by
  unfold rowG; rw [List.length_take, List.length_drop]; omega
def swapR (a : List UInt8) (i k : Nat) : List UInt8 := splB (splB a (i * 4) (rowG a k)) (k * 4) (rowG a i)
theorem swapR_len {a : List UInt8} {i k : Nat} (ha : a.length = 16) (hi : i < 4) (hk : k < 4) : (swapR a i k).length = 16 := by
  unfold swapR
  rw [splB_length, splB_length]
  · exact ha
  · rw [rowG_len ha hk]; omega
  · rw [splB_length (by rw [rowG_len ha hk]; omega), rowG_len ha hi]; omega
/-- The first row from i on with something in column k; n rows are left. -/
def fiF (a : List UInt8) (k : Nat) : Nat → Nat → Nat
  | 0, i => i
  | n + 1, i => if a.getD (i * 4 + k) 0 = 0 then fiF a k n (i + 1) else i
def fi (a : List UInt8) (k : Nat) : Nat := fiF a k (4 - k) k
def scP (m : Nat) (inv : UInt8) (k : Nat) (a : List UInt8) : Nat → List UInt8
  | 0 => a
  | j + 1 => (scP m inv k a j).set (k * 4 + j) (tmul m ((scP m inv k a j).getD (k * 4 + j) 0) inv)
theorem scP_len (m : Nat) (inv : UInt8) (k : Nat) {a : List UInt8} (ha : a.length = 16) : ∀ j, (scP m inv k a j).length = 16
  | 0 => ha
  | j + 1 => by rw [scP, List.length_set, scP_len m inv k ha j]
def elP (m : Nat) (f : UInt8) (k r : Nat) (a : List UInt8) : Nat → List UInt8
  | 0 => a
  | j + 1 => (elP m f k r a j).set (r * 4 + j) ((elP m f k r a j).getD (r * 4 + j) 0 ^^^ tmul m f ((elP m f k r a j).getD (k * 4 + j) 0))
theorem elP_len (m : Nat) (f : UInt8) (k r : Nat) {a : List UInt8} (ha : a.length = 16) : ∀ j, (elP m f k r a j).length = 16
  | 0 => ha
  | j + 1 => by rw [elP, List.length_set, elP_len m f k r ha j]
theorem set_same_u8 {l : List UInt8} {i : Nat} : l.set i (l.getD i 0) = l := by
  apply List.ext_getElem?
  intro j
  rw [List.getElem?_set]
  split
  · rename_i e; subst e
    split
    · rename_i h; exact (getD_lt h).symm
    · rename_i h; exact (List.getElem?_eq_none (by omega)).symm
  · rfl
theorem elP_zero (m k r : Nat) (a : List UInt8) : ∀ j, elP m 0 k r a j = a
  | 0 => rfl
  | j + 1 => by rw [elP, elP_zero m k r a j, tmul_zero, UInt8.xor_zero, set_same_u8]
def elA (m k : Nat) (a b : List UInt8) : Nat → List UInt8 × List UInt8
  | 0 => (a, b)
  | r + 1 => let s := elA m k a b r
    if r = k then s else (elP m (s.1.getD (r * 4 + k) 0) k r s.1 4, elP m (s.1.getD (r * 4 + k) 0) k r s.2 4)
theorem elA_len (m k : Nat) {a b : List UInt8} (ha : a.length = 16) (hb : b.length = 16) : ∀ r, (elA m k a b r).1.length = 16 ∧ (elA m k a b r).2.length = 16
  | 0 => ⟨ha, hb⟩
  | r + 1 => by
    obtain ⟨h1, h2⟩ := elA_len m k ha hb r
    simp only [elA]
    split
    · exact ⟨h1, h2⟩
    · exact ⟨elP_len _ _ _ _ h1 _, elP_len _ _ _ _ h2 _⟩
/-- One column: the matrix, what makes it the unit matrix, the determinant so far. -/
def redS (m k : Nat) (s : List UInt8 × List UInt8 × UInt8) : List UInt8 × List UInt8 × UInt8 :=
  let a := swapR s.1 (fi s.1 k) k
  let b := swapR s.2.1 (fi s.1 k) k
  let inv := pw254 m (a.getD (k * 4 + k) 0)
  let e := elA m k (scP m inv k a 4) (scP m inv k b 4) 4
  (e.1, e.2, tmul m s.2.2 (a.getD (k * 4 + k) 0))
def redP (m : Nat) (A : List UInt8) (U : List UInt8) : Nat → Option (List UInt8 × List UInt8 × UInt8)
  | 0 => some (A, U, 1)
  | k + 1 => match redP m A U k with
    | none => none
    | some s => if fi s.1 k = 4 then none else some (redS m k s)
theorem fiF_le (a : List UInt8) (k : Nat) : ∀ n i, i ≤ fiF a k n i ∧ fiF a k n i ≤ i + n
  | 0, i => by simp [fiF]
  | n + 1, i => by
    rw [fiF]; split
    · have := fiF_le a k n (i + 1); omega
    · omega
theorem redP_none {m : Nat} {A U : List UInt8} {k : Nat} (h : redP m A U k = none) : ∀ j, redP m A U (k + j) = none
  | 0 => h
  | j + 1 => by rw [← Nat.add_assoc, redP, redP_none h j]
theorem redP_len {m : Nat} {A U : List UInt8} (hA : A.length = 16) (hU : U.length = 16) : ∀ {k : Nat} {s : List UInt8 × List UInt8 × UInt8}, k ≤ 4 → redP m A U k = some s → s.1.length = 16 ∧ s.2.1.length = 16
  | 0, s, _, h => by simp [redP] at h; subst h; exact ⟨hA, hU⟩
  | k + 1, s, hk, h => by
    rw [redP] at h
    cases hr : redP m A U k with
    | none => rw [hr] at h; cases h
    | some t =>
      rw [hr] at h
      simp only at h
      obtain ⟨h1, h2⟩ := redP_len hA hU (by omega) hr
      split at h
      · cases h
      · rename_i hf
        cases h
        have hle := fiF_le t.1 k (4 - k) k
        unfold fi at hf
        have hf4 : fi t.1 k < 4 := by unfold fi; omega
        unfold redS
        exact elA_len m k (scP_len _ _ _ (swapR_len h1 hf4 (by omega)) _) (scP_len _ _ _ (swapR_len h2 hf4 (by omega)) _) 4
/-- The determinant, and the inverse. -/
def invM (m : Nat) (A U : List UInt8) : UInt8 × List UInt8 := match redP m A U 4 with
  | none => (0, List.replicate 16 0)
  | some s => (s.2.2, s.2.1)
theorem invM_len (m : Nat) {A U : List UInt8} (hA : A.length = 16) (hU : U.length = 16) : (invM m A U).2.length = 16 := by
  unfold invM
  split
  · simp
  · rename_i s h; exact (redP_len hA hU (Nat.le_refl 4) h).2
end Go.Proofs.Ytledcckafhpgaaa
