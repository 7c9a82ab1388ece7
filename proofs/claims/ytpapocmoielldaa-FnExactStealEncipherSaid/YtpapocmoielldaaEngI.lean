import Derived.Test.YtpapocmoielldaaEngE
/- The house's cipher: the reference and the program make the same one. -/
set_option linter.unusedSimpArgs false
set_option linter.unusedVariables false
namespace Go.Proofs.Ytpapocmoielldaa
open Go Go.Vc
set_option maxRecDepth 10000
set_option maxHeartbeats 4000000
theorem byte_conv (x : Nat) : IntKind.u8.wrap (x : Int) = (((UInt8.ofInt (x : Int)).toNat : Nat) : Int) := wrap_u8 _
def rvP (u : UInt8) : Nat → UInt8
  | 0 => 90
  | 1 => 90 ^^^ rot8 u 0
  | 2 => (90 ^^^ rot8 u 0) ^^^ rot8 u 1
  | _ => ((90 ^^^ rot8 u 0) ^^^ rot8 u 1) ^^^ rot8 u 4
section
variable {f r : Int} {box A pl : List UInt8} {kl : List V → Prop}
theorem cip_put_box {w : List UInt8} (hb : box.length = 256) (hw : w.length = 256) : vPut (cipC f box A pl r) 1 (bs w) kl = kl (cipC f w A pl r) := by
  unfold cipC
  rw [show (1 : Nat) = 0 + 1 from rfl, vPut_succ, vPut_app0 (by rw [bs_length, bs_length, hb, hw])]
theorem cip_put_box1 {x : Nat} {n : Int} (hb : box.length = 256) (hx : x < 256) (hn : inU8 n) : vPut (cipC f box A pl r) (1 + x) [.c (.int .u8 n)] kl = kl (cipC f (box.set x (UInt8.ofInt n)) A pl r) := by
  unfold cipC
  rw [vPut_oneAdd, vPut_appL (by rw [bs_length, hb]; show x + 1 ≤ 256; omega), vPut_bs hn, hb]
  simp [hx]
theorem cip_put_mix {x : Nat} {n : Int} (hb : box.length = 256) (hA : A.length = 16) (hx : x < 16) (hn : inU8 n) : vPut (cipC f box A pl r) (257 + x) [.c (.int .u8 n)] kl = kl (cipC f box (A.set x (UInt8.ofInt n)) pl r) := by
  unfold cipC
  rw [show 257 + x = 1 + (256 + x) by omega, vPut_oneAdd, vPut_appR (by rw [bs_length, hb]; omega), bs_length, hb, Nat.add_sub_cancel_left, vPut_appL (by rw [bs_length, hA]; show x + 1 ≤ 16; omega), vPut_bs hn, hA]
  simp [hx]
theorem cip_put_mix2 {i j : Nat} {n : Int} (hb : box.length = 256) (hA : A.length = 16) (hi : i < 4) (hj : j < 4) (hn : inU8 n) : vPut (cipC f box A pl r) (257 + i * 4 + j) [.c (.int .u8 n)] kl = kl (cipC f box (A.set (4 * i + j) (UInt8.ofInt n)) pl r) := by
  rw [show 257 + i * 4 + j = 257 + (4 * i + j) by omega, cip_put_mix hb hA (by omega) hn]
theorem cip_put_pl {x : Nat} {n : Int} (hb : box.length = 256) (hA : A.length = 16) (hp : pl.length = 16) (hx : x < 16) (hn : inU8 n) : vPut (cipC f box A pl r) (273 + x) [.c (.int .u8 n)] kl = kl (cipC f box A (pl.set x (UInt8.ofInt n)) r) := by
  unfold cipC
  rw [show 273 + x = 1 + (272 + x) by omega, vPut_oneAdd, vPut_appR (by rw [bs_length, hb]; omega), bs_length, hb, show 272 + x - 256 = 16 + x by omega, vPut_appR (by rw [bs_length, hA]; omega), bs_length, hA, Nat.add_sub_cancel_left, vPut_appL (by rw [bs_length, hp]; show x + 1 ≤ 16; omega), vPut_bs hn, hp]
  simp [hx]
theorem cip_build {r0 : Int} : V.c (.int .i64 f) :: (bs (List.replicate 256 0) ++ (bs (List.replicate 16 0) ++ (bs (List.replicate 16 0) ++ [.c (.int .i64 r0)]))) = cipC f (List.replicate 256 0) (List.replicate 16 0) (List.replicate 16 0) r0 := rfl
theorem cip_spl0 {x : Int} : splice (cipC f box A pl r) 0 [.c (.int .i64 x)] = cipC x box A pl r := by unfold cipC; rw [splice_zero]
theorem cip_spl1 {x : Int} (hb : box.length = 256) (hA : A.length = 16) (hp : pl.length = 16) : splice (cipC f box A pl r) 289 [.c (.int .i64 x)] = cipC f box A pl x := by
  unfold cipC
  rw [show (289 : Nat) = 288 + 1 from rfl, splice_succ, splice_appR (by rw [bs_length, hb]; omega), bs_length, hb, splice_appR (by rw [bs_length, hA]; omega), bs_length, hA, splice_appR (by rw [bs_length, hp]; omega), bs_length, hp]
  rfl
end
def houseC (r : Int) : List V := cipC 285 houseB houseA houseP r
theorem mem5 {α : Type} {a b c d e : α} {p : α → Prop} (ha : p a) (hb : p b) (hc : p c) (hd : p d) (he : p e) : ∀ f ∈ [a, b, c, d, e], p f := by
  intro f hf
  simp only [List.mem_cons, List.not_mem_nil, or_false] at hf
  rcases hf with rfl | rfl | rfl | rfl | rfl <;> assumption
theorem xor_idx : ∀ i, i < 4 → ∀ j, j < 4 → bitI .xor .i64 ((i : Nat) : Int) (IntKind.i64.wrap (4 + (j : Nat))) = ((i ^^^ (4 + j) : Nat) : Int) := by decide +kernel
def houseG (x : Nat) : UInt8 := pw254 285 (UInt8.ofInt (((x / 4) ^^^ (4 + x % 4) : Nat) : Int))
def houseQ (i : Nat) : UInt8 := UInt8.ofInt (((13 * i + 4) % 16 : Nat) : Int)
theorem pl_idx : ∀ i, i < 16 → (IntKind.i64.wrap (IntKind.i64.wrap (13 * ((i : Nat) : Int)) + 4)).tmod 16 = (((13 * i + 4) % 16 : Nat) : Int) := by decide +kernel
end Go.Proofs.Ytpapocmoielldaa
