import Derived.Test.YtnlkebkonkdahaaEngM
/- Counting blocks in plain lists: the carry byte by byte is the number plus 1. No program in sight. -/
set_option linter.unusedSimpArgs false
set_option linter.unusedVariables false
namespace Go.Proofs.Ytnlkebkonkdahaa
open Go Go.Vc
set_option maxHeartbeats 4000000
/-- The reference's step: a carry from the last byte to the eighth. -/
def nxtL : Nat → List UInt8 → List UInt8
  | 0, s => s
  | j + 1, s => if s.getD (8 + j) 0 + 1 = 0 then nxtL j (s.set (8 + j) (s.getD (8 + j) 0 + 1)) else s.set (8 + j) (s.getD (8 + j) 0 + 1)
/-- The number that eight bytes are. -/
def numL : List UInt8 → Nat := fun l => l.foldl (fun n x => n * 256 + x.toNat) 0
/-- Eight bytes of a number. -/
def be8 (n : Nat) : List UInt8 := (List.range 8).map fun i => UInt8.ofNat (n / 2 ^ (56 - 8 * i))
theorem be8_len (n : Nat) : (be8 n).length = 8 := by simp [be8]
theorem u8_ofNat_eq {n : Nat} {u : UInt8} (h : n % 256 = u.toNat) : UInt8.ofNat n = u := by
  apply UInt8.toNat_inj.1
  rw [UInt8.toNat_ofNat']; simpa using h
theorem be8_num {l : List UInt8} (h : l.length = 8) : be8 (numL l) = l := by
  match l, h with
  | [a, b, c, d, e, f, g, k], _ =>
    have := a.toNat_lt; have := b.toNat_lt; have := c.toNat_lt; have := d.toNat_lt
    have := e.toNat_lt; have := f.toNat_lt; have := g.toNat_lt; have := k.toNat_lt
    simp only [be8, numL, List.foldl, List.range, List.range.loop, List.map]
    congr 1
    · apply u8_ofNat_eq; omega
    congr 1
    · apply u8_ofNat_eq; omega
    congr 1
    · apply u8_ofNat_eq; omega
    congr 1
    · apply u8_ofNat_eq; omega
    congr 1
    · apply u8_ofNat_eq; omega
    congr 1
    · apply u8_ofNat_eq; omega
    congr 1
    · apply u8_ofNat_eq; omega
    congr 1
    · apply u8_ofNat_eq; omega
theorem num_lt {l : List UInt8} (h : l.length = 8) : numL l < 2 ^ 64 := by
  match l, h with
  | [a, b, c, d, e, f, g, k], _ =>
    have := a.toNat_lt; have := b.toNat_lt; have := c.toNat_lt; have := d.toNat_lt
    have := e.toNat_lt; have := f.toNat_lt; have := g.toNat_lt; have := k.toNat_lt
    simp only [numL, List.foldl]
    omega
theorem u8_inc (x : UInt8) : (x + 1).toNat = (x.toNat + 1) % 256 := UInt8.toNat_add x 1
theorem u8_inc0 (x : UInt8) : (x + 1 = 0) = (x.toNat = 255) := by
  have := x.toNat_lt
  apply propext
  rw [← UInt8.toNat_inj, u8_inc]
  change (x.toNat + 1) % 256 = 0 ↔ _
  omega
theorem nxt_num {h l : List UInt8} (hh : h.length = 8) (hl : l.length = 8) : nxtL 8 (h ++ l) = h ++ be8 ((numL l + 1) % 2 ^ 64) := by
  match h, hh, l, hl with
  | [p0, p1, p2, p3, p4, p5, p6, p7], _, [a, b, c, d, e, f, g, k], _ =>
    have := a.toNat_lt; have := b.toNat_lt; have := c.toNat_lt; have := d.toNat_lt
    have := e.toNat_lt; have := f.toNat_lt; have := g.toNat_lt; have := k.toNat_lt
    simp only [nxtL, List.cons_append, List.nil_append, List.set, List.getD_cons_succ, List.getD_cons_zero, Nat.reduceAdd, be8, numL, List.foldl, List.range, List.range.loop, List.map, u8_inc0]
    repeat' split
    all_goals simp only [List.cons.injEq, true_and, and_true]
    all_goals repeat' apply And.intro
    all_goals (symm; apply u8_ofNat_eq; (try simp only [u8_inc]); omega)
theorem num_be8 {n : Nat} (h : n < 2 ^ 64) : numL (be8 n) = n := by
  simp only [be8, numL, List.foldl, List.range, List.range.loop, List.map, UInt8.toNat_ofNat']
  omega
/-- The starts, one after the other. -/
def cntB (start : List UInt8) : Nat → List UInt8
  | 0 => start
  | k + 1 => nxtL 8 (cntB start k)
theorem cntB_eq {start : List UInt8} (h : start.length = 16) : ∀ k, cntB start k = start.take 8 ++ be8 ((numL (start.drop 8) + k) % 2 ^ 64)
  | 0 => by
    have hd : (start.drop 8).length = 8 := by rw [List.length_drop]; omega
    rw [Nat.add_zero, Nat.mod_eq_of_lt (num_lt hd), be8_num hd, List.take_append_drop]; rfl
  | k + 1 => by
    have hm : (numL (start.drop 8) + k) % 2 ^ 64 < 2 ^ 64 := Nat.mod_lt _ (by decide)
    rw [cntB, cntB_eq h k, nxt_num (by rw [List.length_take]; omega) (be8_len _), num_be8 hm]
    congr 2
    omega
theorem cntB_len {start : List UInt8} (h : start.length = 16) (k : Nat) : (cntB start k).length = 16 := by
  rw [cntB_eq h, List.length_append, be8_len, List.length_take]; omega
/-- What counting makes of data; enc: the cipher with its key. -/
def cntL (enc : List UInt8 → List UInt8) (start data : List UInt8) : List UInt8 := (List.range data.length).map fun i => data.getD i 0 ^^^ (enc (cntB start (i / 16))).getD (i % 16) 0
theorem cntL_len (enc : List UInt8 → List UInt8) (start data : List UInt8) : (cntL enc start data).length = data.length := by simp [cntL]
/-- Feedback: the block before the k-th, and what comes out. -/
def fedH (enc : List UInt8 → List UInt8) (back : Bool) (start data : List UInt8) : Nat → List UInt8
  | 0 => start
  | k + 1 => if back then (data.drop (16 * k)).take 16 else (List.range 16).map fun i => data.getD (16 * k + i) 0 ^^^ (enc (fedH enc back start data k)).getD i 0
def fedL (enc : List UInt8 → List UInt8) (back : Bool) (start data : List UInt8) : List UInt8 := (List.range data.length).map fun i => data.getD i 0 ^^^ (enc (fedH enc back start data (i / 16))).getD (i % 16) 0
theorem fedL_len (enc : List UInt8 → List UInt8) (back : Bool) (start data : List UInt8) : (fedL enc back start data).length = data.length := by simp [fedL]
theorem fedH_len {enc : List UInt8 → List UInt8} {back : Bool} {start data : List UInt8} (h : start.length = 16) : ∀ k, 16 * k ≤ data.length → (fedH enc back start data k).length = 16
  | 0, _ => h
  | k + 1, hk => by
    rw [fedH]
    split
    · rw [List.length_take, List.length_drop]; omega
    · simp
/-- Chaining of blocks. -/
def chnH (enc : List UInt8 → List UInt8) (start data : List UInt8) : Nat → List UInt8
  | 0 => start
  | k + 1 => enc ((List.range 16).map fun i => ((data.drop (16 * k)).take 16).getD i 0 ^^^ (chnH enc start data k).getD i 0)
def chnL (enc : List UInt8 → List UInt8) (start data : List UInt8) : Nat → List UInt8
  | 0 => []
  | k + 1 => chnL enc start data k ++ chnH enc start data (k + 1)
theorem chnL_len {enc : List UInt8 → List UInt8} {start data : List UInt8} (he : ∀ x, (enc x).length = 16) : ∀ k, (chnL enc start data k).length = 16 * k
  | 0 => rfl
  | k + 1 => by rw [chnL, List.length_append, chnL_len he k, chnH, he]; omega
/-- Deciphering, the last rounds first; ib: the box back, B: the matrix back, ip: the places back. -/
def decS (m : Nat) (box ib B ip key s : List UInt8) (n : Nat) : Nat → List UInt8
  | 0 => s
  | j + 1 =>
    let x := xorN 16 (decS m box ib B ip key s n j) (keyN box key (n - j))
    boxL 16 ib (moveL ip (if n - j < n then mixL 16 m B x else x))
theorem decS_len (m : Nat) (box ib B ip key s : List UInt8) (n : Nat) (hs : s.length = 16) : ∀ j, (decS m box ib B ip key s n j).length = 16
  | 0 => hs
  | j + 1 => tab_len _ _
def decL (m : Nat) (box ib B ip key s : List UInt8) (n : Nat) : List UInt8 := xorN 16 (decS m box ib B ip key s n n) (keyN box key 0)
theorem decL_len (m : Nat) (box ib B ip key s : List UInt8) (n : Nat) : (decL m box ib B ip key s n).length = 16 := xorN_len _ _ _
/-- The blocks whose chaining is given; dec: the cipher back with its key. -/
def unchL (dec : List UInt8 → List UInt8) (start data : List UInt8) : Nat → List UInt8
  | 0 => []
  | k + 1 => unchL dec start data k ++ (List.range 16).map fun i => (dec ((data.drop (16 * k)).take 16)).getD i 0 ^^^ (if k = 0 then start else (data.drop (16 * (k - 1))).take 16).getD i 0
theorem unchL_len (dec : List UInt8 → List UInt8) (start data : List UInt8) : ∀ k, (unchL dec start data k).length = 16 * k
  | 0 => rfl
  | k + 1 => by rw [unchL, List.length_append, unchL_len dec start data k, List.length_map, List.length_range]; omega
end Go.Proofs.Ytnlkebkonkdahaa
