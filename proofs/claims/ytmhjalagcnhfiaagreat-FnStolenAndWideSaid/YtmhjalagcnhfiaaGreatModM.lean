import Derived.Test.YtmhjalagcnhfiaaGreatFieldC
/- Ciphers and networks in plain lists: keys of rounds, boxes, mixing, the house's cipher. No program in sight. -/
set_option linter.unusedSimpArgs false
set_option linter.unusedVariables false
namespace Go.Proofs.YtmhjalagcnhfiaaGreat
open Go Go.Vc
/-! ### Keys of rounds -/
def ownK (r : Int) (s : List UInt8) (i : Nat) : UInt8 := if i = 0 then s.getD 15 0 ^^^ UInt8.ofInt r else s.getD (i - 1) 0
def nkP (box k : List UInt8) (r : Int) : Nat → List UInt8
  | 0 => k
  | i + 1 => (nkP box k r i).set i ((nkP box k r i).getD i 0 ^^^ box.getD (ownK r (nkP box k r i) i).toNat 0)
theorem nkP_len {k : List UInt8} (hk : k.length = 16) (box : List UInt8) (r : Int) : ∀ i, (nkP box k r i).length = 16
  | 0 => hk
  | i + 1 => by rw [nkP, List.length_set, nkP_len hk box r i]
def nextK (box k : List UInt8) (r : Int) : List UInt8 := nkP box k r 16
theorem nextK_len {k : List UInt8} (hk : k.length = 16) (box : List UInt8) (r : Int) : (nextK box k r).length = 16 := nkP_len hk box r 16
/-- The key of round r. -/
def keyN (box key : List UInt8) : Nat → List UInt8
  | 0 => key
  | r + 1 => nextK box (keyN box key r) ((r : Int) + 1)
theorem keyN_len {key : List UInt8} (hk : key.length = 16) (box : List UInt8) : ∀ r, (keyN box key r).length = 16
  | 0 => hk
  | r + 1 => nextK_len (keyN_len hk box r) box _
/-- The keys of n rounds, one after the other. -/
def keysL (box key : List UInt8) : Nat → List UInt8
  | 0 => []
  | n + 1 => keysL box key n ++ keyN box key n
theorem keysL_len {key : List UInt8} (hk : key.length = 16) (box : List UInt8) : ∀ n, (keysL box key n).length = 16 * n
  | 0 => rfl
  | n + 1 => by rw [keysL, List.length_append, keysL_len hk box n, keyN_len hk box n]; omega
theorem keysL_at {key : List UInt8} (hk : key.length = 16) (box : List UInt8) {r : Nat} : ∀ {n : Nat}, r < n → ((keysL box key n).drop (16 * r)).take 16 = keyN box key r
  | 0, h => by omega
  | n + 1, h => by
    have hl := keysL_len hk box n
    have hk' := keyN_len hk box n
    rw [keysL]
    rcases Nat.lt_or_ge r n with h' | h'
    · rw [List.drop_append_of_le_length (by omega), List.take_append_of_le_length (by rw [List.length_drop]; omega)]
      exact keysL_at hk box h'
    · obtain rfl : r = n := by omega
      rw [show 16 * r = (keysL box key r).length by omega, List.drop_left, ← hk', List.take_length]
/-! ### Mixing -/
/-- One byte of a mixed column. -/
def mixB (m : Nat) (A s : List UInt8) (x : Nat) : Nat → UInt8
  | 0 => 0
  | j + 1 => mixB m A s x j ^^^ tmul m (A.getD (x % 4 * 4 + j) 0) (s.getD (4 * (x / 4) + j) 0)
def mixL (n : Nat) (m : Nat) (A s : List UInt8) : List UInt8 := tab n fun x => mixB m A s x 4
theorem mixL_len (n m : Nat) (A s : List UInt8) : (mixL n m A s).length = n := tab_len _ _
/-- The products of a matrix's elements with all bytes. -/
def tabB (m : Nat) (A : List UInt8) (x : Nat) : UInt8 := tmul m (A.getD (x / 256) 0) (UInt8.ofInt ((x % 256 : Nat) : Int))
def tabL (m : Nat) (A : List UInt8) : List UInt8 := tab 4096 (tabB m A)
theorem tabL_len (m : Nat) (A : List UInt8) : (tabL m A).length = 4096 := tab_len _ _
theorem tabL_get {m : Nat} {A : List UInt8} {k : Nat} (hk : k < 16) (u : UInt8) : (tabL m A).getD (k * 256 + u.toNat) 0 = tmul m (A.getD k 0) u := by
  have hu := u.toNat_lt
  unfold tabL
  rw [map_getD (by omega)]
  unfold tabB
  rw [show (k * 256 + u.toNat) / 256 = k by omega, show (k * 256 + u.toNat) % 256 = u.toNat by omega, ofInt_toNat]
theorem mixB_four (m : Nat) (A s : List UInt8) (x : Nat) : mixB m A s x 4 =
    tmul m (A.getD (x % 4 * 4) 0) (s.getD (4 * (x / 4)) 0) ^^^ tmul m (A.getD (x % 4 * 4 + 1) 0) (s.getD (4 * (x / 4) + 1) 0) ^^^
      tmul m (A.getD (x % 4 * 4 + 2) 0) (s.getD (4 * (x / 4) + 2) 0) ^^^ tmul m (A.getD (x % 4 * 4 + 3) 0) (s.getD (4 * (x / 4) + 3) 0) := by
  simp only [mixB, Nat.add_zero]
  rw [UInt8.zero_xor]
/-! ### Rounds -/
def encS (m : Nat) (box A pl key s : List UInt8) (n : Nat) : Nat → List UInt8
  | 0 => xorN 16 s (keyN box key 0)
  | r + 1 =>
    let t := moveL pl (boxL 16 box (encS m box A pl key s n r))
    xorN 16 (if r + 1 < n then mixL 16 m A t else t) (keyN box key (r + 1))
theorem encS_len (m : Nat) (box A pl key s : List UInt8) (n : Nat) : ∀ r, (encS m box A pl key s n r).length = 16
  | 0 => xorN_len _ _ _
  | r + 1 => xorN_len _ _ _
def encL (m : Nat) (box A pl key s : List UInt8) (n : Nat) : List UInt8 := encS m box A pl key s n n
theorem encL_len (m : Nat) (box A pl key s : List UInt8) (n : Nat) : (encL m box A pl key s n).length = 16 := encS_len _ _ _ _ _ _ _ _
/-! ### The house's cipher -/
def rotN (x k : Nat) : Nat := x * 2 ^ k % 256 + x / 2 ^ (8 - k)
theorem rotN_lt {x k : Nat} (hx : x < 256) (hk : k < 8) : rotN x k < 256 := by
  have : ∀ k, k < 8 → ∀ x, x < 256 → rotN x k < 256 := by decide +kernel
  exact this k hk x hx
def rot8 (u : UInt8) (k : Nat) : UInt8 := UInt8.ofNat (rotN u.toNat k)
theorem rot8_nat (u : UInt8) {k : Nat} (hk : k < 8) : (rot8 u k).toNat = rotN u.toNat k := by
  have := rotN_lt u.toNat_lt hk
  unfold rot8; rw [UInt8.toNat_ofNat']; omega
theorem rot8_zero (u : UInt8) : rot8 u 0 = u := by
  apply UInt8.toNat_inj.1
  rw [rot8_nat u (by omega)]
  have := u.toNat_lt
  unfold rotN; simp; omega
def powB : List UInt8 := tab 256 fun x => pw254 285 (UInt8.ofInt (x : Int))
def rotB : List UInt8 := tab 256 fun x => ((90 ^^^ rot8 (UInt8.ofInt (x : Int)) 0) ^^^ rot8 (UInt8.ofInt (x : Int)) 1) ^^^ rot8 (UInt8.ofInt (x : Int)) 4
def houseB : List UInt8 := tab 256 fun x => let b := pw254 285 (UInt8.ofInt (x : Int)); ((b ^^^ rot8 b 1) ^^^ rot8 b 4) ^^^ 90
theorem houseB_len : houseB.length = 256 := tab_len _ _
def thenL (b c : List UInt8) : List UInt8 := tab 256 fun x => c.getD (b.getD x 0).toNat 0
theorem house_then : thenL powB rotB = houseB := by
  unfold thenL houseB
  refine tab_congr fun x hx => ?_
  simp only [powB]
  rw [map_getD hx]
  simp only [rotB]
  rw [map_getD (pw254 285 (UInt8.ofInt (x : Int))).toNat_lt, ofInt_toNat, rot8_zero]
  generalize pw254 285 (UInt8.ofInt (x : Int)) = b
  rw [UInt8.xor_comm 90 b, UInt8.xor_assoc b 90, UInt8.xor_comm 90, ← UInt8.xor_assoc b, UInt8.xor_assoc _ 90, UInt8.xor_comm 90, ← UInt8.xor_assoc]
def houseA : List UInt8 := tab 16 fun x => pw254 285 (UInt8.ofInt (((x / 4) ^^^ (4 + x % 4) : Nat) : Int))
theorem houseA_len : houseA.length = 16 := tab_len _ _
def houseP : List UInt8 := tab 16 fun i => UInt8.ofInt (((13 * i + 4) % 16 : Nat) : Int)
theorem houseP_len : houseP.length = 16 := tab_len _ _
theorem houseP_pl : pl16 houseP := by
  intro i hi
  unfold houseP
  rw [map_getD hi]
  have h1 := toNat_ofInt (((13 * i + 4) % 16 : Nat) : Int)
  have h2 := Nat.mod_lt (13 * i + 4) (show 0 < 16 by decide)
  generalize (13 * i + 4) % 16 = q at *
  omega
/-! ### The unit matrix -/
def unP : Nat → List UInt8
  | 0 => List.replicate 16 0
  | i + 1 => (unP i).set (i * 4 + i) 1
theorem unP_len : ∀ i, (unP i).length = 16
  | 0 => by simp [unP]
  | i + 1 => by rw [unP, List.length_set, unP_len i]
end Go.Proofs.YtmhjalagcnhfiaaGreat
/- Digests in plain lists. No program in sight. -/
set_option linter.unusedSimpArgs false
set_option linter.unusedVariables false
namespace Go.Proofs.YtmhjalagcnhfiaaGreat
open Go Go.Vc
def loL (st : List UInt8) : List UInt8 := tab 16 fun i => st.getD i 0
def hiL (st : List UInt8) : List UInt8 := tab 16 fun i => st.getD (16 + i) 0
theorem loL_len (st : List UInt8) : (loL st).length = 16 := tab_len _ _
theorem hiL_len (st : List UInt8) : (hiL st).length = 16 := tab_len _ _
theorem tab_drop {l : List UInt8} {n o : Nat} (h : o + n ≤ l.length) : (l.drop o).take n = tab n fun i => l.getD (o + i) 0 := by
  refine ext_getD (n := n) (by simp; omega) (tab_len _ _) fun i hi => ?_
  rw [map_getD hi]
  simp [List.getD, List.getElem?_take, hi]
theorem lo_take {st : List UInt8} (h : st.length = 32) : st.take 16 = loL st := by
  have := tab_drop (l := st) (n := 16) (o := 0) (by omega)
  simpa [loL] using this
theorem hi_take {st : List UInt8} (h : st.length = 32) : (st.drop 16).take 16 = hiL st := tab_drop (by omega)
def absL (m : Nat) (box A pl : List UInt8) (n : Nat) (st msg : List UInt8) : List UInt8 :=
  xorN 16 (encL m box A pl (hiL st) (xorN 16 (loL st) msg) n) (xorN 16 (loL st) msg) ++
    xorN 16 (encL m box A pl (xorN 16 (encL m box A pl (hiL st) (xorN 16 (loL st) msg) n) (xorN 16 (loL st) msg)) (xorN 16 (hiL st) msg) n) (xorN 16 (hiL st) msg)
theorem absL_len (m : Nat) (box A pl : List UInt8) (n : Nat) (st msg : List UInt8) : (absL m box A pl n st msg).length = 32 := by
  unfold absL; rw [List.length_append, xorN_len, xorN_len]
/-- The state after k blocks. -/
def digP (f : List UInt8 → List UInt8 → List UInt8) (s l : List UInt8) : Nat → List UInt8
  | 0 => s
  | k + 1 => f (digP f s l k) ((l.drop (16 * k)).take 16)
def digL (m : Nat) (box A pl : List UInt8) (n : Nat) (s l : List UInt8) : List UInt8 := digP (absL m box A pl n) s l (l.length / 16)
theorem digP_len {m : Nat} {box A pl : List UInt8} {n : Nat} {s l : List UInt8} (hs : s.length = 32) : ∀ k, (digP (absL m box A pl n) s l k).length = 32
  | 0 => hs
  | k + 1 => absL_len _ _ _ _ _ _ _
theorem digL_len {m : Nat} {box A pl : List UInt8} {n : Nat} {s l : List UInt8} (hs : s.length = 32) : (digL m box A pl n s l).length = 32 := digP_len hs _
theorem take_more {l : List UInt8} {q : Nat} : l.take (16 * q) ++ (l.drop (16 * q)).take 16 = l.take (16 * (q + 1)) := by
  rw [show 16 * (q + 1) = 16 * q + 16 by omega, List.take_add]
end Go.Proofs.YtmhjalagcnhfiaaGreat
/- Counting blocks in plain lists: the carry byte by byte is the number plus 1. No program in sight. -/
set_option linter.unusedSimpArgs false
set_option linter.unusedVariables false
namespace Go.Proofs.YtmhjalagcnhfiaaGreat
open Go Go.Vc
set_option maxHeartbeats 4000000
/-- The reference's step: a carry from the last byte to the eighth. -/
def nxtL : Nat → List UInt8 → List UInt8
  | 0, s => s
  | j + 1, s => if s.getD (8 + j) 0 + 1 = 0 then nxtL j (s.set (8 + j) (s.getD (8 + j) 0 + 1)) else s.set (8 + j) (s.getD (8 + j) 0 + 1)
/-- The number that eight bytes are. -/
def numL : List UInt8 → Nat := fun l => l.foldl (fun n x => n * 256 + x.toNat) 0
/-- Eight bytes of a number. -/
def be8 (n : Nat) : List UInt8 := (List.range 8).map fun i => UInt8.ofNat (n / 2 ^ (56 - 8 * i))
theorem be8_len (n : Nat) : (be8 n).length = 8 := by simp [be8]
theorem u8_ofNat_eq {n : Nat} {u : UInt8} (h : n % 256 = u.toNat) : UInt8.ofNat n = u := by
  apply UInt8.toNat_inj.1
  rw [UInt8.toNat_ofNat']; simpa using h
theorem be8_num {l : List UInt8} (h : l.length = 8) : be8 (numL l) = l := by
  match l, h with
  | [a, b, c, d, e, f, g, k], _ =>
    have := a.toNat_lt; have := b.toNat_lt; have := c.toNat_lt; have := d.toNat_lt
    have := e.toNat_lt; have := f.toNat_lt; have := g.toNat_lt; have := k.toNat_lt
    simp only [be8, numL, List.foldl, List.range, List.range.loop, List.map]
    congr 1
    · apply u8_ofNat_eq; omega
    congr 1
    · apply u8_ofNat_eq; omega
    congr 1
    · apply u8_ofNat_eq; omega
    congr 1
    · apply u8_ofNat_eq; omega
    congr 1
    · apply u8_ofNat_eq; omega
    congr 1
    · apply u8_ofNat_eq; omega
    congr 1
    · apply u8_ofNat_eq; omega
    congr 1
    · apply u8_ofNat_eq; omega
theorem num_lt {l : List UInt8} (h : l.length = 8) : numL l < 2 ^ 64 := by
  match l, h with
  | [a, b, c, d, e, f, g, k], _ =>
    have := a.toNat_lt; have := b.toNat_lt; have := c.toNat_lt; have := d.toNat_lt
    have := e.toNat_lt; have := f.toNat_lt; have := g.toNat_lt; have := k.toNat_lt
    simp only [numL, List.foldl]
    omega
theorem u8_inc (x : UInt8) : (x + 1).toNat = (x.toNat + 1) % 256 := UInt8.toNat_add x 1
theorem u8_inc0 (x : UInt8) : (x + 1 = 0) = (x.toNat = 255) := by
  have := x.toNat_lt
  apply propext
  rw [← UInt8.toNat_inj, u8_inc]
  change (x.toNat + 1) % 256 = 0 ↔ _
  omega
theorem nxt_num {h l : List UInt8} (hh : h.length = 8) (hl : l.length = 8) : nxtL 8 (h ++ l) = h ++ be8 ((numL l + 1) % 2 ^ 64) := by
  match h, hh, l, hl with
  | [p0, p1, p2, p3, p4, p5, p6, p7], _, [a, b, c, d, e, f, g, k], _ =>
    have := a.toNat_lt; have := b.toNat_lt; have := c.toNat_lt; have := d.toNat_lt
    have := e.toNat_lt; have := f.toNat_lt; have := g.toNat_lt; have := k.toNat_lt
    simp only [nxtL, List.cons_append, List.nil_append, List.set, List.getD_cons_succ, List.getD_cons_zero, Nat.reduceAdd, be8, numL, List.foldl, List.range, List.range.loop, List.map, u8_inc0]
    repeat' split
    all_goals simp only [List.cons.injEq, true_and, and_true]
    all_goals repeat' apply And.intro
    all_goals (symm; apply u8_ofNat_eq; (try simp only [u8_inc]); omega)
theorem num_be8 {n : Nat} (h : n < 2 ^ 64) : numL (be8 n) = n := by
  simp only [be8, numL, List.foldl, List.range, List.range.loop, List.map, UInt8.toNat_ofNat']
  omega
/-- The starts, one after the other. -/
def cntB (start : List UInt8) : Nat → List UInt8
  | 0 => start
  | k + 1 => nxtL 8 (cntB start k)
theorem cntB_eq {start : List UInt8} (h : start.length = 16) : ∀ k, cntB start k = start.take 8 ++ be8 ((numL (start.drop 8) + k) % 2 ^ 64)
  | 0 => by
    have hd : (start.drop 8).length = 8 := by rw [List.length_drop]; omega
    rw [Nat.add_zero, Nat.mod_eq_of_lt (num_lt hd), be8_num hd, List.take_append_drop]; rfl
  | k + 1 => by
    have hm : (numL (start.drop 8) + k) % 2 ^ 64 < 2 ^ 64 := Nat.mod_lt _ (by decide)
    rw [cntB, cntB_eq h k, nxt_num (by rw [List.length_take]; omega) (be8_len _), num_be8 hm]
    congr 2
    omega
theorem cntB_len {start : List UInt8} (h : start.length = 16) (k : Nat) : (cntB start k).length = 16 := by
  rw [cntB_eq h, List.length_append, be8_len, List.length_take]; omega
/-- What counting makes of data; enc: the cipher with its key. -/
def cntL (enc : List UInt8 → List UInt8) (start data : List UInt8) : List UInt8 := (List.range data.length).map fun i => data.getD i 0 ^^^ (enc (cntB start (i / 16))).getD (i % 16) 0
theorem cntL_len (enc : List UInt8 → List UInt8) (start data : List UInt8) : (cntL enc start data).length = data.length := by simp [cntL]
/-- Feedback: the block before the k-th, and what comes out. -/
def fedH (enc : List UInt8 → List UInt8) (back : Bool) (start data : List UInt8) : Nat → List UInt8
  | 0 => start
  | k + 1 => if back then (data.drop (16 * k)).take 16 else (List.range 16).map fun i => data.getD (16 * k + i) 0 ^^^ (enc (fedH enc back start data k)).getD i 0
def fedL (enc : List UInt8 → List UInt8) (back : Bool) (start data : List UInt8) : List UInt8 := (List.range data.length).map fun i => data.getD i 0 ^^^ (enc (fedH enc back start data (i / 16))).getD (i % 16) 0
theorem fedL_len (enc : List UInt8 → List UInt8) (back : Bool) (start data : List UInt8) : (fedL enc back start data).length = data.length := by simp [fedL]
theorem fedH_len {enc : List UInt8 → List UInt8} {back : Bool} {start data : List UInt8} (h : start.length = 16) : ∀ k, 16 * k ≤ data.length → (fedH enc back start data k).length = 16
  | 0, _ => h
  | k + 1, hk => by
    rw [fedH]
    split
    · rw [List.length_take, List.length_drop]; omega
    · simp
/-- Chaining of blocks. -/
def chnH (enc : List UInt8 → List UInt8) (start data : List UInt8) : Nat → List UInt8
  | 0 => start
  | k + 1 => enc ((List.range 16).map fun i => ((data.drop (16 * k)).take 16).getD i 0 ^^^ (chnH enc start data k).getD i 0)
def chnL (enc : List UInt8 → List UInt8) (start data : List UInt8) : Nat → List UInt8
  | 0 => []
  | k + 1 => chnL enc start data k ++ chnH enc start data (k + 1)
theorem chnL_len {enc : List UInt8 → List UInt8} {start data : List UInt8} (he : ∀ x, (enc x).length = 16) : ∀ k, (chnL enc start data k).length = 16 * k
  | 0 => rfl
  | k + 1 => by rw [chnL, List.length_append, chnL_len he k, chnH, he]; omega
/-- Deciphering, the last rounds first; ib: the box back, B: the matrix back, ip: the places back. -/
def decS (m : Nat) (box ib B ip key s : List UInt8) (n : Nat) : Nat → List UInt8
  | 0 => s
  | j + 1 =>
    let x := xorN 16 (decS m box ib B ip key s n j) (keyN box key (n - j))
    boxL 16 ib (moveL ip (if n - j < n then mixL 16 m B x else x))
theorem decS_len (m : Nat) (box ib B ip key s : List UInt8) (n : Nat) (hs : s.length = 16) : ∀ j, (decS m box ib B ip key s n j).length = 16
  | 0 => hs
  | j + 1 => tab_len _ _
def decL (m : Nat) (box ib B ip key s : List UInt8) (n : Nat) : List UInt8 := xorN 16 (decS m box ib B ip key s n n) (keyN box key 0)
theorem decL_len (m : Nat) (box ib B ip key s : List UInt8) (n : Nat) : (decL m box ib B ip key s n).length = 16 := xorN_len _ _ _
/-- The blocks whose chaining is given; dec: the cipher back with its key. -/
def unchL (dec : List UInt8 → List UInt8) (start data : List UInt8) : Nat → List UInt8
  | 0 => []
  | k + 1 => unchL dec start data k ++ (List.range 16).map fun i => (dec ((data.drop (16 * k)).take 16)).getD i 0 ^^^ (if k = 0 then start else (data.drop (16 * (k - 1))).take 16).getD i 0
theorem unchL_len (dec : List UInt8 → List UInt8) (start data : List UInt8) : ∀ k, (unchL dec start data k).length = 16 * k
  | 0 => rfl
  | k + 1 => by rw [unchL, List.length_append, unchL_len dec start data k, List.length_map, List.length_range]; omega
end Go.Proofs.YtmhjalagcnhfiaaGreat
