import Derived.Test.YtahnjhppkgndiaaGreatModK
import Derived.Test.YtahnjhppkgndiaaGreatConcatB
/- Stealing: the program and the reference decipher. -/
set_option linter.unusedSimpArgs false
set_option linter.unusedVariables false
namespace Go.Proofs.YtahnjhppkgndiaaGreat
open Go Go.Vc
set_option maxRecDepth 10000
set_option maxHeartbeats 4000000
/-- The last block's first bytes before the block of the deciphered one. -/
def befB (r : Nat) (tail mixed : List UInt8) : List UInt8 := tab 16 fun j => if j < r then tail.getD j 0 else mixed.getD j 0
theorem befB_len (r : Nat) (a b : List UInt8) : (befB r a b).length = 16 := tab_len _ _
theorem parts_blk {l : List UInt8} {m r : Nat} (hl : l.length = 16 * (m + 1) + r) (hr : 1 ≤ r ∧ r ≤ 16) : (partsL l (m + 2)).take (16 * m) = l.take (16 * m) ∧ ((partsL l (m + 2)).drop (16 * m)).take 16 = (l.drop (16 * m)).take 16 ∧ ((partsL l (m + 2)).drop (16 * (m + 1))).take 16 = fillB (l.drop (16 * (m + 1))) := by
  rw [parts_zero hl hr]
  refine ⟨List.take_append_of_le_length (by omega), ?_, ?_⟩
  · rw [List.drop_append_of_le_length (by omega), List.take_append_of_le_length (by rw [List.length_drop]; omega)]
  · rw [List.drop_append_of_le_length (by omega), List.take_of_length_le (by simp only [List.length_append, List.length_drop, List.length_replicate]; omega), fillB_app (by rw [List.length_drop]; omega), List.length_drop]
    congr 2; omega
theorem spl_two {C F : List UInt8} {m : Nat} (h : C.length = 16 * (m + 2)) (hF : F.length = 16) : splB (splB C (16 * (m + 1)) ((C.drop (16 * m)).take 16)) (16 * m) F = C.take (16 * m) ++ (F ++ (C.drop (16 * m)).take 16) := by
  obtain ⟨X, B, A, rfl, hX, hB, hA⟩ := three h
  have e1 : List.drop (16 * m) (X ++ (B ++ A)) = B ++ A := List.drop_left' hX
  have e3 : List.take 16 (B ++ A) = B := List.take_left' hB
  have e5 : List.take (16 * m) (X ++ (B ++ A)) = X := List.take_left' hX
  have e6 : List.take (16 * (m + 1)) (X ++ (B ++ A)) = X ++ B := by rw [← List.append_assoc]; exact List.take_left' (by rw [List.length_append]; omega)
  have e7 : splB (X ++ (B ++ A)) (16 * (m + 1)) B = X ++ (B ++ B) := by
    unfold splB
    rw [e6, hB, List.drop_eq_nil_of_le (by simp only [List.length_append]; omega), List.append_nil, List.append_assoc]
  rw [e1, e3, e5, e7]
  unfold splB
  rw [List.take_left' hX, hF, ← List.append_assoc X B B, List.drop_left' (by rw [List.length_append]; omega), List.append_assoc]
theorem bef_spl {T M : List UInt8} (hT : T.length ≤ 16) (hM : M.length = 16) : splB M 0 T = befB T.length (fillB T) M := by
  refine ext_getD (n := 16) (by rw [splB_length (by omega)]; exact hM) (befB_len _ _ _) fun j hj => ?_
  unfold befB
  rw [map_getD hj, fillB_get hj]
  unfold splB
  simp only [List.take_zero, List.nil_append, Nat.zero_add, List.getD_eq_getElem?_getD]
  split
  · rw [List.getElem?_append_left (by assumption)]
  · rw [List.getElem?_append_right (by omega), List.getElem?_drop]; congr 2; omega
theorem blkB_load2 {P : List UInt8} {i : Nat} {k : V → Prop} (h : 16 * i + 16 ≤ P.length) : vSub (bs P) (16 * i) 16 k = k (.a (bs ((P.drop (16 * i)).take 16))) := by
  rw [show 16 * i = i * 16 from Nat.mul_comm _ _, blkB_load h, Nat.mul_comm]
def Cip.mixL (c : Cip) (key l : List UInt8) (m : Nat) : List UInt8 :=
  let P := partsL l (m + 2)
  splB (splB P (16 * (m + 1)) ((P.drop (16 * m)).take 16)) (16 * m) (befB (l.length - 16 * (m + 1)) ((P.drop (16 * (m + 1))).take 16) (c.dec key ((P.drop (16 * m)).take 16)))
def Cip.unsteal (c : Cip) (key start l : List UInt8) : List UInt8 := (unchL (c.dec key) start (c.mixL key l ((l.length + 15) / 16 - 2)) ((l.length + 15) / 16)).take l.length
theorem fl_from {f0 g : Nat → UInt8} {n r : Nat} (h : ∀ j, j < r → g j = f0 j) : fl n f0 g r = tab n f0 := by
  unfold fl tab
  refine List.map_congr_left fun j _ => ?_
  split
  · exact h j (by assumption)
  · rfl
end Go.Proofs.YtahnjhppkgndiaaGreat
