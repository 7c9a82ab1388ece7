import Derived.Test.YtjakgjelnbpmnaaGreatListsM
/- Networks in plain lists: round functions, rounds, both ways. No program in sight. -/
set_option linter.unusedSimpArgs false
set_option linter.unusedVariables false
namespace Go.Proofs.YtjakgjelnbpmnaaGreat
open Go Go.Vc
/-- The round function. -/
def fnU (box key x : List UInt8) : List UInt8 := tab 8 fun i => box.getD (x.getD i 0 ^^^ key.getD i 0).toNat 0
theorem fnU_len (box key x : List UInt8) : (fnU box key x).length = 8 := tab_len _ _
def fnL (m : Nat) (box A key x : List UInt8) : List UInt8 := tab 8 fun i => (mixL 8 m A (fnU box key x)).getD (3 * i % 8) 0
theorem fnL_len (m : Nat) (box A key x : List UInt8) : (fnL m box A key x).length = 8 := tab_len _ _
/-- Bytes laid where the round function takes them from. -/
def scat (y : List UInt8) : Nat → List UInt8
  | 0 => List.replicate 8 0
  | i + 1 => (scat y i).set (3 * i % 8) (y.getD i 0)
/-- The round function's inverse; B: the matrix back. -/
def fbL (m : Nat) (box B key y : List UInt8) : List UInt8 := tab 8 fun i => (invL 256 box 256).getD ((mixL 8 m B (scat y 8)).getD i 0).toNat 0 ^^^ key.getD i 0
theorem fbL_len (m : Nat) (box B key y : List UInt8) : (fbL m box B key y).length = 8 := tab_len _ _
def qN (b f : List UInt8) (x : Nat) : UInt8 :=
  if x < 4 then b.getD (4 + x) 0 ^^^ f.getD x 0 else if x < 8 then b.getD (4 + x) 0 else if x < 12 then b.getD (4 + x) 0 ^^^ f.getD (x - 4) 0 else b.getD (x - 12) 0
/-- A round. -/
def rndL (m : Nat) (box A : List UInt8) (kind : Int) (key b : List UInt8) : List UInt8 :=
  if kind = 0 then b.drop 8 ++ xorN 8 (b.take 8) (fnL m box A key (b.drop 8))
  else if kind = 1 then b.drop 8 ++ xorN 8 (b.drop 8) (fnL m box A key (b.take 8))
  else tab 16 (qN b (fnL m box A key (b.take 4 ++ (b.drop 8).take 4)))
theorem rndL_len {m : Nat} {box A : List UInt8} {kind : Int} {key b : List UInt8} (hb : b.length = 16) : (rndL m box A kind key b).length = 16 := by
  unfold rndL
  split
  · rw [List.length_append, List.length_drop, xorN_len, hb]
  · split
    · rw [List.length_append, List.length_drop, xorN_len, hb]
    · exact tab_len _ _
/-- Quarters filled side by side. -/
def q4 (q : Nat → UInt8) (i : Nat) : List UInt8 := tab 16 fun x => if x % 4 < i then q x else 0
theorem q4_len (q : Nat → UInt8) (i : Nat) : (q4 q i).length = 16 := tab_len _ _
theorem q4_zero (q : Nat → UInt8) : List.replicate 16 0 = q4 q 0 := rfl
theorem q4_done (q : Nat → UInt8) : q4 q 4 = tab 16 q := rfl
theorem q4_step (q : Nat → UInt8) {i : Nat} (h : i < 4) : ((((q4 q i).set i (q i)).set (4 + i) (q (4 + i))).set (8 + i) (q (8 + i))).set (12 + i) (q (12 + i)) = q4 q (i + 1) := by
  rcases (by omega : i = 0 ∨ i = 1 ∨ i = 2 ∨ i = 3) with rfl | rfl | rfl | rfl <;> rfl
def h4 (q : Nat → UInt8) (i : Nat) : List UInt8 := tab 16 fun x => if x % 4 < i ∧ (x / 4 = 0 ∨ x / 4 = 2) then q x else 0
def g4 (q : Nat → UInt8) (i : Nat) : List UInt8 := tab 16 fun x => if (x / 4 = 0 ∨ x / 4 = 2) ∨ x % 4 < i then q x else 0
end Go.Proofs.YtjakgjelnbpmnaaGreat
