import Derived.Test.YtahnjhppkgndiaaGreatCiphIs
import Derived.Test.YtahnjhppkgndiaaGreatTk
import Derived.Test.YtahnjhppkgndiaaGreatEngL
import Derived.Test.YtahnjhppkgndiaaGreatEngK
/- A cipher with what is known of it; the engine of a cipher. -/
set_option linter.unusedSimpArgs false
set_option linter.unusedVariables false
namespace Go.Proofs.YtahnjhppkgndiaaGreat
open Go Go.Vc
set_option maxRecDepth 10000
set_option maxHeartbeats 4000000
structure Cip where
  m : Nat
  box : List UInt8
  A : List UInt8
  pl : List UInt8
  n : Nat
  hm : 256 ≤ m
  hm' : m < 512
  hb : box.length = 256
  hA : A.length = 16
  hp : pl.length = 16
  hpl : pl16 pl
  hn1 : 1 ≤ n
  hn : n ≤ 20
  is : cipB m box A pl n = true
theorem cip_of {z : Int} {box A pl : List UInt8} {n : Int} (hb : box.length = 256) (hA : A.length = 16) (hp : pl.length = 16) (h : cipB z box A pl n = true) : ∃ c : Cip, z = c.m ∧ box = c.box ∧ A = c.A ∧ pl = c.pl ∧ n = c.n := by
  obtain ⟨m, k, rfl, rfl, h1, h2, h3, h4, h5⟩ := cipB_spec hp h
  exact ⟨⟨m, box, A, pl, k, h1, h2, hb, hA, hp, h3, h4, h5, h⟩, rfl, rfl, rfl, rfl, rfl⟩
namespace Cip
variable (c : Cip)
/-- Its cells as a value. -/
def cells : List V := cipC c.m c.box c.A c.pl c.n
theorem engL : EngL c.box (invL 256 c.box 256) c.pl (invL 16 c.pl 16) := ⟨c.hb, invL_len _ _ _, c.hp, invL_len _ _ _⟩
/-- Its engine's cells. -/
def eng (h1 h2 : Nat) : List V := engC c.box (invL 256 c.box 256) c.pl (invL 16 c.pl 16) h1 h2 c.n
def t1 : List UInt8 := tabL c.m c.A
def t2 : List UInt8 := tabL c.m (backL c.m c.A)
/-- Its engine's blocks. -/
def bl (own : Bool) : List Blk := [⟨own, c.eng 1 2⟩, ⟨own, bs c.t1⟩, ⟨own, bs c.t2⟩]
def enc (key s : List UInt8) : List UInt8 := encL c.m c.box c.A c.pl key s c.n
def abs (st msg : List UInt8) : List UInt8 := absL c.m c.box c.A c.pl c.n st msg
def dig (l : List UInt8) : List UInt8 := digL c.m c.box c.A c.pl c.n (startL 32) (padM l)
end Cip
section
variable {c : Cip}
theorem k_len : c.cells.length = 290 := cipC_len c.hb c.hA c.hp
theorem k_all {n : Nat} (hn : n = 290) {k : V → Prop} : vSub c.cells 0 n k = k (.a c.cells) := cip_all c.hb c.hA c.hp hn
theorem k_ren (σ : List Nat) : V.renL σ c.cells = c.cells := renL_cip σ
theorem k_inst (sub : List (Nat × Nat)) (N : Nat) : V.instL sub N c.cells = c.cells := instL_cip sub N
theorem k_ok (N : Nat) : okL N c.cells := okL_cip N
theorem e_ren {h1 h2 : Nat} (σ : List Nat) : V.renL σ (c.eng h1 h2) = c.eng (σ.getD h1 0) (σ.getD h2 0) := renL_eng σ
theorem e_inst {a b d : Nat} {R : List (Nat × Nat)} (N : Nat) : V.instL ((a, 0) :: (b, 0) :: (d, 0) :: R) N (c.eng 1 2) = c.eng b d := instL_eng N
theorem e_inst0 {h1 h2 : Nat} (N : Nat) : V.instL [] N (c.eng h1 h2) = c.eng (N + h1) (N + h2) := instL_eng0 N
theorem e_ok {h1 h2 : Nat} (N : Nat) : okL N (c.eng h1 h2) = (h1 < N ∧ h2 < N) := okL_eng N
theorem e_len (a b : Nat) : (c.eng a b).length = 547 := engC_len c.engL
theorem e_take {a b d e : Nat} : List.take (c.eng a b).length (c.eng d e) = c.eng d e := take_all (by rw [e_len, e_len])
theorem enc_len (key s : List UInt8) : (c.enc key s).length = 16 := encL_len _ _ _ _ _ _ _
theorem abs_len (st msg : List UInt8) : (c.abs st msg).length = 32 := absL_len _ _ _ _ _ _ _
theorem dig_len (l : List UInt8) : (c.dig l).length = 32 := digL_len (startL_len 32)
end
theorem k_newEngine (c : Cip) : LC Tryz.prog 75 [.a c.cells] [] (Ret [] (fun _ : Unit => True) fun _ => (.p 0 0, c.bl true)) :=
  c_newEngine c.m c.box c.A c.pl c.n c.hm c.hm' c.hb c.hA c.hp c.hpl
theorem k_spec_Is (c : Cip) : LC Tryz.prog 84 [.a c.cells] [] (fun v hp => v = .c (.bool (true)) ∧ hp = []) := by
  have := c_spec_l04Is c.m c.n c.box c.A c.pl c.hb c.hA c.hp
  rw [c.is] at this
  exact this
theorem k_impl_Is (c : Cip) : LC Tryz.prog 81 [.a c.cells] [] (fun v hp => v = .c (.bool (true)) ∧ hp = []) := by
  have := c_impl_IsCipher c.m c.n c.box c.A c.pl c.hb c.hA c.hp
  rw [c.is] at this
  exact this
end Go.Proofs.YtahnjhppkgndiaaGreat
