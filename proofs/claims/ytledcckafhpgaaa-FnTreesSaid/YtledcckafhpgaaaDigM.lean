import Derived.Test.YtledcckafhpgaaaEngM
/- Digests in plain lists. No program in sight. -/
set_option linter.unusedSimpArgs false
set_option linter.unusedVariables false
namespace Go.Proofs.Ytledcckafhpgaaa
open Go Go.Vc
def loL (st : List UInt8) : List UInt8 := tab 16 fun i => st.getD i 0
def hiL (st : List UInt8) : List UInt8 := tab 16 fun i => st.getD (16 + i) 0
theorem loL_len (st : List UInt8) : (loL st).length = 16 := tab_len _ _
theorem hiL_len (st : List UInt8) : (hiL st).length = 16 := tab_len _ _
theorem tab_drop {l : List UInt8} {n o : Nat} (h : o + n ≤ l.length) : (l.drop o).take n = tab n fun i => l.getD (o + i) 0 := by
  refine ext_getD (n := n) (by simp; omega) (tab_len _ _) fun i hi => ?_
  rw [map_getD hi]
  simp [List.getD, List.getElem?_take, hi]
theorem lo_take {st : List UInt8} (h : st.length = 32) : st.take 16 = loL st := by
  have := tab_drop (l := st) (n := 16) (o := 0) (by omega)
  simpa [loL] using this
theorem hi_take {st : List UInt8} (h : st.length = 32) : (st.drop 16).take 16 = hiL st := tab_drop (by omega)
def absL (m : Nat) (box A pl : List UInt8) (n : Nat) (st msg : List UInt8) : List UInt8 :=
  xorN 16 (encL m box A pl (hiL st) (xorN 16 (loL st) msg) n) (xorN 16 (loL st) msg) ++
    xorN 16 (encL m box A pl (xorN 16 (encL m box A pl (hiL st) (xorN 16 (loL st) msg) n) (xorN 16 (loL st) msg)) (xorN 16 (hiL st) msg) n) (xorN 16 (hiL st) msg)
theorem absL_len (m : Nat) (box A pl : List UInt8) (n : Nat) (st msg : List UInt8) : (absL m box A pl n st msg).length = 32 := by
  unfold absL; rw [List.length_append, xorN_len, xorN_len]
/-- The state after k blocks. -/
def digP (f : List UInt8 → List UInt8 → List UInt8) (s l : List UInt8) : Nat → List UInt8
  | 0 => s
  | k + 1 => f (digP f s l k) ((l.drop (16 * k)).take 16)
def digL (m : Nat) (box A pl : List UInt8) (n : Nat) (s l : List UInt8) : List UInt8 := digP (absL m box A pl n) s l (l.length / 16)
theorem digP_len {m : Nat} {box A pl : List UInt8} {n : Nat} {s l : List UInt8} (hs : s.length = 32) : ∀ k, (digP (absL m box A pl n) s l k).length = 32
  | 0 => hs
  | k + 1 => absL_len _ _ _ _ _ _ _
theorem digL_len {m : Nat} {box A pl : List UInt8} {n : Nat} {s l : List UInt8} (hs : s.length = 32) : (digL m box A pl n s l).length = 32 := digP_len hs _
theorem take_more {l : List UInt8} {q : Nat} : l.take (16 * q) ++ (l.drop (16 * q)).take 16 = l.take (16 * (q + 1)) := by
  rw [show 16 * (q + 1) = 16 * q + 16 by omega, List.take_add]
end Go.Proofs.Ytledcckafhpgaaa
