import Derived.Test.YtahnjhppkgndiaaGreatHexR
import Derived.Test.YtahnjhppkgndiaaGreatUnpMB
/- Digests' texts come back; data whose padding comes back. No program in sight. -/
set_option linter.unusedSimpArgs false
set_option linter.unusedVariables false
namespace Go.Proofs.YtahnjhppkgndiaaGreat
open Go Go.Vc
set_option maxRecDepth 10000
theorem digV_hexD : ∀ n : Nat, n < 16 → digV (hexD n).toNat = some n := by decide +kernel
theorem unhex_hexL : ∀ g : List UInt8, unhex (hexL g) = some g
  | [] => rfl
  | u :: us => by
    have hu := u.toNat_lt
    rw [hexL, unhex, digV_hexD _ (by omega), digV_hexD _ (by omega), unhex_hexL us]
    simp only [Option.some.injEq, List.cons.injEq, and_true]
    rw [Nat.div_add_mod]
    exact UInt8.ofNat_toNat
theorem readD_hexL {g : List UInt8} (hg : g.length = 32) : readD (hexL g) = some g := by unfold readD; rw [unhex_hexL]; simp only; rw [if_pos hg]
end Go.Proofs.YtahnjhppkgndiaaGreat
