import Derived.Test.YtledcckafhpgaaaTk
/- Lists of bytes that are filled place by place. No program in sight. -/
set_option linter.unusedSimpArgs false
set_option linter.unusedVariables false
namespace Go.Proofs.Ytledcckafhpgaaa
open Go Go.Vc
/-- The n bytes that g tells. -/
def tab (n : Nat) (g : Nat → UInt8) : List UInt8 := (List.range n).map g
/-- n bytes: the first i of them are g's, the others f0's. -/
def fl (n : Nat) (f0 g : Nat → UInt8) (i : Nat) : List UInt8 := (List.range n).map fun x => if x < i then g x else f0 x
theorem fl_len (n : Nat) (f0 g : Nat → UInt8) (i : Nat) : (fl n f0 g i).length = n := by simp [fl]
theorem fl_get {n : Nat} {f0 g : Nat → UInt8} {i j : Nat} (h : j < n) : (fl n f0 g i).getD j 0 = if j < i then g j else f0 j := by
  simp [fl, List.getD, h]
theorem fl_at {n : Nat} {f0 g : Nat → UInt8} {i : Nat} (h : i < n) : (fl n f0 g i).getD i 0 = f0 i := by rw [fl_get h]; simp
theorem fl_set {n : Nat} {f0 g : Nat → UInt8} {i : Nat} {v : UInt8} (h : i < n) (hv : v = g i) : (fl n f0 g i).set i v = fl n f0 g (i + 1) := by
  subst hv
  apply List.ext_getElem?
  intro j
  rw [List.getElem?_set]
  simp only [fl, List.length_map, List.length_range, List.getElem?_map]
  by_cases hj : i = j
  · subst hj; simp [h]
  · rw [if_neg hj]
    rcases Nat.lt_or_ge j n with hjn | hjn
    · simp only [List.getElem?_range hjn, Option.map_some, Option.some.injEq]
      by_cases h1 : j < i
      · rw [if_pos h1, if_pos (by omega)]
      · rw [if_neg h1, if_neg (by omega)]
    · rw [List.getElem?_eq_none (by simpa using hjn)]; rfl
theorem fl_done (n : Nat) (f0 g : Nat → UInt8) : fl n f0 g n = tab n g := by
  unfold fl tab; exact List.map_congr_left fun x hx => by rw [List.mem_range] at hx; rw [if_pos hx]
theorem range_getD {l : List UInt8} {n : Nat} (h : l.length = n) : tab n (fun i => l.getD i 0) = l := by
  subst h; unfold tab
  apply List.ext_getElem?
  intro j
  rcases Nat.lt_or_ge j l.length with hj | hj
  · simp [hj]
  · rw [List.getElem?_eq_none (by simpa using hj), List.getElem?_eq_none hj]
theorem fl_start {l : List UInt8} {n : Nat} (h : l.length = n) (g : Nat → UInt8) : l = fl n (fun i => l.getD i 0) g 0 := by
  unfold fl; simp only [Nat.not_lt_zero, if_false]; exact (by have := range_getD h; unfold tab at this; exact this.symm)
theorem fl_zero (n : Nat) (g : Nat → UInt8) : List.replicate n 0 = fl n (fun _ => 0) g 0 := by
  unfold fl; simp [List.map_const']
theorem map_getD {n i : Nat} {g : Nat → UInt8} (h : i < n) : (tab n g).getD i 0 = g i := by simp [tab, List.getD, h]
theorem tab_len (n : Nat) (g : Nat → UInt8) : (tab n g).length = n := by simp [tab]
theorem tab_congr {n : Nat} {f g : Nat → UInt8} (h : ∀ i, i < n → f i = g i) : tab n f = tab n g := List.map_congr_left fun i hi => h i (by simpa using hi)
theorem getD_lt {l : List UInt8} {i : Nat} (h : i < l.length) : l[i]? = some (l.getD i 0) := by simp [List.getD, h]
/-- Two lists of n bytes with the same bytes. -/
theorem ext_getD {l m : List UInt8} {n : Nat} (hl : l.length = n) (hm : m.length = n) (h : ∀ i, i < n → l.getD i 0 = m.getD i 0) : l = m := by
  rw [← range_getD hl, ← range_getD hm]
  exact tab_congr h
def xorN (n : Nat) (a b : List UInt8) : List UInt8 := tab n fun i => a.getD i 0 ^^^ b.getD i 0
theorem xorN_len (n : Nat) (a b : List UInt8) : (xorN n a b).length = n := tab_len _ _
/-- The permutation that leads back, filled place by place. -/
def invL (n : Nat) (b : List UInt8) : Nat → List UInt8
  | 0 => List.replicate n 0
  | i + 1 => (invL n b i).set (b.getD i 0).toNat (UInt8.ofInt (i : Int))
theorem invL_len (n : Nat) (b : List UInt8) : ∀ i, (invL n b i).length = n
  | 0 => by simp [invL]
  | i + 1 => by rw [invL, List.length_set, invL_len n b i]
def moveL (p s : List UInt8) : List UInt8 := tab 16 fun i => s.getD (p.getD i 0).toNat 0
theorem moveL_len (p s : List UInt8) : (moveL p s).length = 16 := tab_len _ _
def boxL (n : Nat) (b s : List UInt8) : List UInt8 := tab n fun i => b.getD (s.getD i 0).toNat 0
theorem boxL_len (n : Nat) (b s : List UInt8) : (boxL n b s).length = n := tab_len _ _
/-- All places are below 16. -/
def pl16 (p : List UInt8) : Prop := ∀ i, i < 16 → (p.getD i 0).toNat < 16
end Go.Proofs.Ytledcckafhpgaaa
