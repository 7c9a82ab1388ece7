import Derived.Test.YtledcckafhpgaaaListsM
/- Ciphers and networks in plain lists: keys of rounds, boxes, mixing, the house's cipher. No program in sight. -/
set_option linter.unusedSimpArgs false
set_option linter.unusedVariables false
namespace Go.Proofs.Ytledcckafhpgaaa
open Go Go.Vc
/-! ### Keys of rounds -/
def ownK (r : Int) (s : List UInt8) (i : Nat) : UInt8 := if i = 0 then s.getD 15 0 ^^^ UInt8.ofInt r else s.getD (i - 1) 0
def nkP (box k : List UInt8) (r : Int) : Nat → List UInt8
  | 0 => k
  | i + 1 => (nkP box k r i).set i ((nkP box k r i).getD i 0 ^^^ box.getD (ownK r (nkP box k r i) i).toNat 0)
theorem nkP_len {k : List UInt8} (hk : k.length = 16) (box : List UInt8) (r : Int) : ∀ i, (nkP box k r i).length = 16
  | 0 => hk
  | i + 1 => by rw [nkP, List.length_set, nkP_len hk box r i]
def nextK (box k : List UInt8) (r : Int) : List UInt8 := nkP box k r 16
theorem nextK_len {k : List UInt8} (hk : k.length = 16) (box : List UInt8) (r : Int) : (nextK box k r).length = 16 := nkP_len hk box r 16
/-- The key of round r. -/
def keyN (box key : List UInt8) : Nat → List UInt8
  | 0 => key
  | r + 1 => nextK box (keyN box key r) ((r : Int) + 1)
theorem keyN_len {key : List UInt8} (hk : key.length = 16) (box : List UInt8) : ∀ r, (keyN box key r).length = 16
  | 0 => hk
  | r + 1 => nextK_len (keyN_len hk box r) box _
/-- The keys of n rounds, one after the other. -/
def keysL (box key : List UInt8) : Nat → List UInt8
  | 0 => []
  | n + 1 => keysL box key n ++ keyN box key n
theorem keysL_len {key : List UInt8} (hk : key.length = 16) (box : List UInt8) : ∀ n, (keysL box key n).length = 16 * n
  | 0 => rfl
  | n + 1 => by rw [keysL, List.length_append, keysL_len hk box n, keyN_len hk box n]; omega
theorem keysL_at {key : List UInt8} (hk : key.length = 16) (box : List UInt8) {r : Nat} : ∀ {n : Nat}, r < n → ((keysL box key n).drop (16 * r)).take 16 = keyN box key r
  | 0, h => by omega
  | n + 1, h => by
    have hl := keysL_len hk box n
    have hk' := keyN_len hk box n
    rw [keysL]
    rcases Nat.lt_or_ge r n with h' | h'
    · rw [List.drop_append_of_le_length (by omega), List.take_append_of_le_length (by rw [List.length_drop]; omega)]
      exact keysL_at hk box h'
    · obtain rfl : r = n := by omega
      rw [show 16 * r = (keysL box key r).length by omega, List.drop_left, ← hk', List.take_length]
/-! ### Mixing -/
/-- One byte of a mixed column. -/
def mixB (m : Nat) (A s : List UInt8) (x : Nat) : Nat → UInt8
  | 0 => 0
  | j + 1 => mixB m A s x j ^^^ tmul m (A.getD (x % 4 * 4 + j) 0) (s.getD (4 * (x / 4) + j) 0)
def mixL (n : Nat) (m : Nat) (A s : List UInt8) : List UInt8 := tab n fun x => mixB m A s x 4
theorem mixL_len (n m : Nat) (A s : List UInt8) : (mixL n m A s).length = n := tab_len _ _
/-- The products of a matrix's elements with all bytes. -/
def tabB (m : Nat) (A : List UInt8) (x : Nat) : UInt8 := tmul m (A.getD (x / 256) 0) (UInt8.ofInt ((x % 256 : Nat) : Int))
def tabL (m : Nat) (A : List UInt8) : List UInt8 := tab 4096 (tabB m A)
theorem tabL_len (m : Nat) (A : List UInt8) : (tabL m A).length = 4096 := tab_len _ _
theorem tabL_get {m : Nat} {A : List UInt8} {k : Nat} (hk : k < 16) (u : UInt8) : (tabL m A).getD (k * 256 + u.toNat) 0 = tmul m (A.getD k 0) u := by
  have hu := u.toNat_lt
  unfold tabL
  rw [map_getD (by omega)]
  unfold tabB
  rw [show (k * 256 + u.toNat) / 256 = k by omega, show (k * 256 + u.toNat) % 256 = u.toNat by omega, ofInt_toNat]
theorem mixB_four (m : Nat) (A s : List UInt8) (x : Nat) : mixB m A s x 4 =
    tmul m (A.getD (x % 4 * 4) 0) (s.getD (4 * (x / 4)) 0) ^^^ tmul m (A.getD (x % 4 * 4 + 1) 0) (s.getD (4 * (x / 4) + 1) 0) ^^^
      tmul m (A.getD (x % 4 * 4 + 2) 0) (s.getD (4 * (x / 4) + 2) 0) ^^^ tmul m (A.getD (x % 4 * 4 + 3) 0) (s.getD (4 * (x / 4) + 3) 0) := by
  simp only [mixB, Nat.add_zero]
  rw [UInt8.zero_xor]
/-! ### Rounds -/
def encS (m : Nat) (box A pl key s : List UInt8) (n : Nat) : Nat → List UInt8
  | 0 => xorN 16 s (keyN box key 0)
  | r + 1 =>
    let t := moveL pl (boxL 16 box (encS m box A pl key s n r))
    xorN 16 (if r + 1 < n then mixL 16 m A t else t) (keyN box key (r + 1))
theorem encS_len (m : Nat) (box A pl key s : List UInt8) (n : Nat) : ∀ r, (encS m box A pl key s n r).length = 16
  | 0 => xorN_len _ _ _
  | r + 1 => xorN_len _ _ _
def encL (m : Nat) (box A pl key s : List UInt8) (n : Nat) : List UInt8 := encS m box A pl key s n n
theorem encL_len (m : Nat) (box A pl key s : List UInt8) (n : Nat) : (encL m box A pl key s n).length = 16 := encS_len _ _ _ _ _ _ _ _
/-! ### The house's cipher -/
def rotN (x k : Nat) : Nat := x * 2 ^ k % 256 + x / 2 ^ (8 - k)
theorem rotN_lt {x k : Nat} (hx : x < 256) (hk : k < 8) : rotN x k < 256 := by
  have : ∀ k, k < 8 → ∀ x, x < 256 → rotN x k < 256 := by decide +kernel
  exact this k hk x hx
def rot8 (u : UInt8) (k : Nat) : UInt8 := UInt8.ofNat (rotN u.toNat k)
theorem rot8_nat (u : UInt8) {k : Nat} (hk : k < 8) : (rot8 u k).toNat = rotN u.toNat k := by
  have := rotN_lt u.toNat_lt hk
  unfold rot8; rw [UInt8.toNat_ofNat']; omega
theorem rot8_zero (u : UInt8) : rot8 u 0 = u := by
  apply UInt8.toNat_inj.1
  rw [rot8_nat u (by omega)]
  have := u.toNat_lt
  unfold rotN; simp; omega
def powB : List UInt8 := tab 256 fun x => pw254 285 (UInt8.ofInt (x : Int))
def rotB : List UInt8 := tab 256 fun x => ((90 ^^^ rot8 (UInt8.ofInt (x : Int)) 0) ^^^ rot8 (UInt8.ofInt (x : Int)) 1) ^^^ rot8 (UInt8.ofInt (x : Int)) 4
def houseB : List UInt8 := tab 256 fun x => let b := pw254 285 (UInt8.ofInt (x : Int)); ((b ^^^ rot8 b 1) ^^^ rot8 b 4) ^^^ 90
theorem houseB_len : houseB.length = 256 := tab_len _ _
def thenL (b c : List UInt8) : List UInt8 := tab 256 fun x => c.getD (b.getD x 0).toNat 0
theorem house_then : thenL powB rotB = houseB := by
  unfold thenL houseB
  refine tab_congr fun x hx => ?_
  simp only [powB]
  rw [map_getD hx]
  simp only [rotB]
  rw [map_getD (pw254 285 (UInt8.ofInt (x : Int))).toNat_lt, ofInt_toNat, rot8_zero]
  generalize pw254 285 (UInt8.ofInt (x : Int)) = b
  rw [UInt8.xor_comm 90 b, UInt8.xor_assoc b 90, UInt8.xor_comm 90, ← UInt8.xor_assoc b, UInt8.xor_assoc _ 90, UInt8.xor_comm 90, ← UInt8.xor_assoc]
def houseA : List UInt8 := tab 16 fun x => pw254 285 (UInt8.ofInt (((x / 4) ^^^ (4 + x % 4) : Nat) : Int))
theorem houseA_len : houseA.length = 16 := tab_len _ _
def houseP : List UInt8 := tab 16 fun i => UInt8.ofInt (((13 * i + 4) % 16 : Nat) : Int)
theorem houseP_len : houseP.length = 16 := tab_len _ _
theorem houseP_pl : pl16 houseP := by
  intro i hi
  unfold houseP
  rw [map_getD hi]
  have h1 := toNat_ofInt (((13 * i + 4) % 16 : Nat) : Int)
  have h2 := Nat.mod_lt (13 * i + 4) (show 0 < 16 by decide)
  generalize (13 * i + 4) % 16 = q at *
  omega
/-! ### The unit matrix -/
def unP : Nat → List UInt8
  | 0 => List.replicate 16 0
  | i + 1 => (unP i).set (i * 4 + i) 1
theorem unP_len : ∀ i, (unP i).length = 16
  | 0 => by simp [unP]
  | i + 1 => by rw [unP, List.length_set, unP_len i]
end Go.Proofs.Ytledcckafhpgaaa
