import Derived.Test.YtahnjhppkgndiaaGreatModG
/- Wide blocks: the program and the reference. -/
set_option linter.unusedSimpArgs false
set_option linter.unusedVariables false
namespace Go.Proofs.YtahnjhppkgndiaaGreat
open Go Go.Vc
set_option maxRecDepth 10000
set_option maxHeartbeats 4000000
/-- All bytes combined with 255. -/
def turnB (s : List UInt8) : List UInt8 := tab 16 fun i => s.getD i 0 ^^^ 255
theorem turnB_len (s : List UInt8) : (turnB s).length = 16 := tab_len _ _
theorem xor255 (u : UInt8) : bitI .xor .u8 (u.toNat : Int) 255 = ((u ^^^ 255).toNat : Int) := bitI_xor8 u 255
theorem not255 (u : UInt8) : bitI .xor .u8 (if IntKind.u8.signed = true then -1 else IntKind.u8.max) (u.toNat : Int) = ((u ^^^ 255).toNat : Int) := by
  rw [show (if IntKind.u8.signed = true then -1 else IntKind.u8.max : Int) = ((255 : UInt8).toNat : Int) from rfl, bitI_xor8, UInt8.xor_comm]
theorem blkR_load2 {P : List UInt8} {i : Nat} {R : List V} {k : V → Prop} (h : 16 * i + 16 ≤ P.length) : vSub (bs P ++ R) (16 * i) 16 k = k (.a (bs ((P.drop (16 * i)).take 16))) := by
  rw [show 16 * i = i * 16 from Nat.mul_comm _ _, blkR_load h, Nat.mul_comm]
/-- The last block of the chaining of padded data from zeros. -/
def Cip.lst (c : Cip) (key l : List UInt8) : List UInt8 := chnH (c.enc key) (List.replicate 16 0) (padL l) ((padL l).length / 16)
def Cip.wenc (c : Cip) (key l : List UInt8) : List UInt8 :=
  let r1 := cntL (c.enc key) (c.enc key (l.take 16)) (l.drop 16)
  let left := xorN 16 (l.take 16) (c.lst key r1)
  left ++ cntL (c.enc key) (c.enc key (turnB left)) r1
def Cip.wdec (c : Cip) (key l : List UInt8) : List UInt8 :=
  let r1 := cntL (c.enc key) (c.enc key (turnB (l.take 16))) (l.drop 16)
  let left := xorN 16 (l.take 16) (c.lst key r1)
  left ++ cntL (c.enc key) (c.enc key left) r1
theorem wenc_len (c : Cip) (key l : List UInt8) : (c.wenc key l).length = 16 + (l.length - 16) := by
  simp only [Cip.wenc, List.length_append, xorN_len, cntL_len, List.length_drop]
theorem wdec_len (c : Cip) (key l : List UInt8) : (c.wdec key l).length = 16 + (l.length - 16) := by
  simp only [Cip.wdec, List.length_append, xorN_len, cntL_len, List.length_drop]
theorem lst_len (c : Cip) (key l : List UInt8) : (c.lst key l).length = 16 := by
  have := padL_len l
  unfold Cip.lst
  obtain ⟨m, hm⟩ : ∃ m, (padL l).length / 16 = m + 1 := ⟨(padL l).length / 16 - 1, by omega⟩
  rw [hm]; exact enc_len _ _
theorem lst_eq (c : Cip) (key l : List UInt8) {m : Nat} (hm : (padL l).length / 16 = m + 1) : ((chnL (c.enc key) (List.replicate 16 0) (padL l) (m + 1)).drop (16 * m)).take 16 = c.lst key l := by
  have h1 := chnL_len (enc := c.enc key) (start := List.replicate 16 0) (data := padL l) (fun x => enc_len _ _) m
  have h2 := lst_len c key l
  unfold Cip.lst at h2 ⊢
  rw [hm] at h2 ⊢
  rw [chnL, List.drop_left' h1, List.take_of_length_le (by omega)]
end Go.Proofs.YtahnjhppkgndiaaGreat
