import Derived.Test.YtapagcnipdpfiaaVcgR
import Derived.Test.YtapagcnipdpfiaaFieldM
/- The laws' own helpers over slices of slices of bytes. -/
set_option linter.unusedSimpArgs false
set_option linter.unusedVariables false
namespace Go.Proofs.Ytapagcnipdpfiaa
open Go Go.Vc
set_option maxRecDepth 10000
set_option maxHeartbeats 4000000
/-- How many bytes parts have. -/
def sumD (D : List (List UInt8 × Nat)) : Nat := (D.map fun p => p.1.length).sum
theorem sumD_succ {D : List (List UInt8 × Nat)} {i : Nat} {p : List UInt8 × Nat} (h : D[i]? = some p) : sumD (D.take (i + 1)) = sumD (D.take i) + p.1.length := by
  unfold sumD
  rw [List.take_add_one, h, List.map_append, List.sum_append]
  simp
theorem sumD_le (D : List (List UInt8 × Nat)) (i : Nat) : sumD (D.take i) ≤ sumD D := by
  have : sumD D = sumD (D.take i) + sumD (D.drop i) := by
    unfold sumD
    rw [← List.sum_append, ← List.map_append, List.take_append_drop]
  omega
/-- The same bytes in slices without room. -/
def cpD (D : List (List UInt8 × Nat)) : List (List UInt8 × Nat) := D.map fun p => (p.1, p.1.length)
theorem cpD_length (D : List (List UInt8 × Nat)) : (cpD D).length = D.length := by simp [cpD]
theorem cpD_get {D : List (List UInt8 × Nat)} {i : Nat} {p : List UInt8 × Nat} (h : D[i]? = some p) : (cpD D)[i]? = some (p.1, p.1.length) := by simp [cpD, List.getElem?_map, h]
theorem nils_set {A : List V} {v : V} {n i : Nat} (hA : A.length = i) (h : i < n) : (A ++ List.replicate (n - i) (V.c (.slice none 0 0))).set i v = (A ++ [v]) ++ List.replicate (n - (i + 1)) (V.c (.slice none 0 0)) := by
  rw [List.set_append_right _ _ (by omega), hA, Nat.sub_self, show n - i = (n - (i + 1)) + 1 by omega, List.replicate_succ, List.set_cons_zero, List.append_assoc]; rfl
theorem flat_one {n : Nat} {v : V} : (List.replicate n [v]).flatten = List.replicate n v := by
  induction n with
  | zero => rfl
  | succ n ih => rw [List.replicate_succ, List.flatten_cons, ih]; rfl
/-- Marks, part by part. -/
def mkD (k : Nat) (D : List (List UInt8 × Nat)) : List (List UInt8 × Nat) := (List.range D.length).map fun i => (markL (k + sumD (D.take i)) (D.getD i default).1.length, (D.getD i default).2)
theorem mkD_length (k : Nat) (D : List (List UInt8 × Nat)) : (mkD k D).length = D.length := by simp [mkD]
theorem mkD_get {k : Nat} {D : List (List UInt8 × Nat)} {i : Nat} {p : List UInt8 × Nat} (h : D[i]? = some p) : (mkD k D)[i]? = some (markL (k + sumD (D.take i)) p.1.length, p.2) := by
  have hi := (List.getElem?_eq_some_iff.1 h).1
  rw [mkD, List.getElem?_map, List.getElem?_range hi, Option.map_some, List.getD_eq_getElem?_getD, h]; rfl
def mkI (k : Nat) (D : List (List UInt8 × Nat)) (i : Nat) : List (List UInt8 × Nat) := (mkD k D).take i ++ D.drop i
theorem mkI_len {k : Nat} {D : List (List UInt8 × Nat)} {i : Nat} (h : i ≤ D.length) : (mkI k D i).length = D.length := by
  rw [mkI, List.length_append, List.length_take, List.length_drop, mkD_length]; omega
theorem mkI_get {k : Nat} {D : List (List UInt8 × Nat)} {i : Nat} {p : List UInt8 × Nat} (h : D[i]? = some p) : (mkI k D i)[i]? = some p := by
  have hi := (List.getElem?_eq_some_iff.1 h).1
  rw [mkI, List.getElem?_append_right (by rw [List.length_take, mkD_length]; omega), List.length_take, mkD_length, Nat.min_eq_left (by omega), Nat.sub_self, List.getElem?_drop, Nat.add_zero, h]
theorem mkI_set {k : Nat} {D : List (List UInt8 × Nat)} {i : Nat} {p : List UInt8 × Nat} (h : D[i]? = some p) : (mkI k D i).set i (markL (k + sumD (D.take i)) p.1.length, p.2) = mkI k D (i + 1) := by
  have hi := (List.getElem?_eq_some_iff.1 h).1
  have e1 : D.drop i = D[i] :: D.drop (i + 1) := List.drop_eq_getElem_cons hi
  have e2 : (mkD k D).take (i + 1) = (mkD k D).take i ++ [(markL (k + sumD (D.take i)) p.1.length, p.2)] := by rw [List.take_add_one, mkD_get h]; rfl
  rw [mkI, mkI, e2, e1, List.set_append_right _ _ (by rw [List.length_take, mkD_length]; omega), List.length_take, mkD_length, Nat.min_eq_left (by omega), Nat.sub_self, List.set_cons_zero, List.append_assoc]
  rfl
theorem mkI_all {k : Nat} {D : List (List UInt8 × Nat)} : mkI k D D.length = mkD k D := by
  rw [mkI, List.take_of_length_le (by rw [mkD_length]; exact Nat.le_refl _), List.drop_of_length_le (Nat.le_refl _), List.append_nil]
theorem partB_bPs_set {own : Bool} {L : List (List UInt8 × Nat)} {i : Nat} {x : List UInt8 × Nat} : (partB own (bPs L)).set i ⟨own, bs x.1⟩ = partB own (bPs (L.set i x)) := by
  simp [partB, bPs, List.map_set, bP]
theorem mkD_cells (k : Nat) (D : List (List UInt8 × Nat)) : ∀ (i : Nat) (p q : Prt), (bPs D)[i]? = some p → (bPs (mkD k D))[i]? = some q → q.cells.length = p.cells.length := by
  intro i p q hp hq
  have hi : i < D.length := by have := (List.getElem?_eq_some_iff.1 hp).1; rwa [bPs_length] at this
  have h1 : D[i]? = some D[i] := List.getElem?_eq_getElem hi
  rw [bPs_get h1] at hp
  rw [bPs_get (mkD_get h1)] at hq
  cases hp; cases hq
  simp [bP, bs_length, markL_len]
theorem mkD_ptr (h k : Nat) (D : List (List UInt8 × Nat)) : ptrV h (bPs D) = ptrV h (bPs (mkD k D)) := by
  refine ptrV_same (by simp [bPs_length, mkD_length]) fun i p q hp hq => ?_
  have hi : i < D.length := by have := (List.getElem?_eq_some_iff.1 hp).1; rwa [bPs_length] at this
  have h1 : D[i]? = some D[i] := List.getElem?_eq_getElem hi
  rw [bPs_get h1] at hp
  rw [bPs_get (mkD_get h1)] at hq
  cases hp; cases hq
  simp [bP, markL_len]
end Go.Proofs.Ytapagcnipdpfiaa
