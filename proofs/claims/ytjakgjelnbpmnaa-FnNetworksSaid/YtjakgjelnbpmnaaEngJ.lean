import Derived.Test.YtjakgjelnbpmnaaEngI
import Derived.Test.YtjakgjelnbpmnaaEngE
import Derived.Test.YtjakgjelnbpmnaaInvS
/- The house's cipher as the program makes it; engines. -/
set_option linter.unusedSimpArgs false
set_option linter.unusedVariables false
namespace Go.Proofs.Ytjakgjelnbpmnaa
open Go Go.Vc
set_option maxRecDepth 10000
set_option maxHeartbeats 4000000
theorem bitI_90 (a : UInt8) : bitI .xor .u8 (a.toNat : Int) 90 = ((a ^^^ 90).toNat : Int) := bitI_xor8 a 90
def houseF (x : Nat) : UInt8 := let b := pw254 285 (UInt8.ofInt (x : Int)); ((b ^^^ rot8 b 1) ^^^ rot8 b 4) ^^^ 90
theorem mem7 {α : Type} {a b c d e f g : α} {p : α → Prop} (ha : p a) (hb : p b) (hc : p c) (hd : p d) (he : p e) (hf : p f) (hg : p g) : ∀ x ∈ [a, b, c, d, e, f, g], p x := by
  intro x hx
  simp only [List.mem_cons, List.not_mem_nil, or_false] at hx
  rcases hx with rfl | rfl | rfl | rfl | rfl | rfl | rfl <;> assumption
/-- What a new engine leads to. -/
def engH (m : Nat) (box A pl : List UInt8) (rd : Int) (own : Bool) : List Blk :=
  [⟨own, engC box (invL 256 box 256) pl (invL 16 pl 16) 1 2 rd⟩, ⟨own, bs (tabL m A)⟩, ⟨own, bs (tabL m (invM m A (unP 4)).2)⟩]
end Go.Proofs.Ytjakgjelnbpmnaa
