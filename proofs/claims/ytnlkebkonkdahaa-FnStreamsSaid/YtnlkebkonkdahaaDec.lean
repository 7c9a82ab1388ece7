import Derived.Test.YtnlkebkonkdahaaCip
import Derived.Test.YtnlkebkonkdahaaModM
/- Blocks deciphered: the reference. -/
set_option linter.unusedSimpArgs false
set_option linter.unusedVariables false
namespace Go.Proofs.Ytnlkebkonkdahaa
open Go Go.Vc
set_option maxRecDepth 10000
set_option maxHeartbeats 4000000
theorem invL_pl16 (b : List UInt8) : ∀ i, i ≤ 16 → pl16 (invL 16 b i)
  | 0, _ => by
    intro j hj
    have h : (List.replicate 16 (0 : UInt8)).getD j 0 = 0 := by rw [List.getD_eq_getElem?_getD, List.getElem?_replicate, if_pos hj]; rfl
    rw [invL, h]; decide
  | i + 1, h => by
    intro j hj
    have hl := invL_len 16 b i
    have hi := invL_pl16 b i (by omega) j hj
    rw [invL]
    simp only [List.getD_eq_getElem?_getD, List.getElem?_set] at hi ⊢
    split
    · split
      · have := toNat_ofInt (i : Int)
        simp only [Option.getD_some]; omega
      · simp
    · exact hi
theorem decS_step {m : Nat} {box ib B ip key s : List UInt8} {n r : Nat} (h : r < n) : decS m box ib B ip key s n (n - r) = boxL 16 ib (moveL ip (if r + 1 < n then mixL 16 m B (xorN 16 (decS m box ib B ip key s n (n - (r + 1))) (keyN box key (r + 1))) else xorN 16 (decS m box ib B ip key s n (n - (r + 1))) (keyN box key (r + 1)))) := by
  rw [show n - r = (n - (r + 1)) + 1 by omega, decS, show n - (n - (r + 1)) = r + 1 by omega]
def Cip.dec (c : Cip) (key s : List UInt8) : List UInt8 := decL c.m c.box (invL 256 c.box 256) (backL c.m c.A) (invL 16 c.pl 16) key s c.n
theorem dec_len (c : Cip) (key s : List UInt8) : (c.dec key s).length = 16 := decL_len _ _ _ _ _ _ _ _
theorem k_spec_keys (c : Cip) (key : List UInt8) (hk : key.length = 16) : LC Try.prog 116 [.a c.cells, .a (bs key), .c (.int .i64 (c.n))] [] (Ret [] (fun _ : Nat => True) fun r => (.s 0 0 (c.n + 1) (c.n + 1 + r), [⟨true, bs (keysL c.box key (c.n + 1)) ++ List.replicate (16 * r) .j⟩])) :=
  c_spec_l04Keys c.m c.box c.A c.pl key c.n c.n (by have := c.hn; omega) c.hb c.hA c.hp hk
section
variable {c : Cip} {k : V → Prop}
theorem k_fd : vGet c.cells 0 k = k (.c (.int .i64 c.m)) := cip_field
theorem k_bx : vSub c.cells 1 256 k = k (.a (bs c.box)) := cip_box c.hb
theorem k_mx : vSub c.cells 257 16 k = k (.a (bs c.A)) := cip_mix c.hb c.hA
theorem k_pl : vSub c.cells 273 16 k = k (.a (bs c.pl)) := cip_pl c.hb c.hA c.hp
end
end Go.Proofs.Ytnlkebkonkdahaa
