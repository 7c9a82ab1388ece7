import Derived.Test.YtjakgjelnbpmnaaGreatCmp
import Derived.Test.YtjakgjelnbpmnaaGreatConcatB
import Derived.Test.YtjakgjelnbpmnaaGreatByteSS
import Derived.Test.YtjakgjelnbpmnaaGreatVcgW
/- Stores of blobs: is it one? (both functions, over any memory). -/
set_option linter.unusedSimpArgs false
set_option linter.unusedVariables false
namespace Go.Proofs.YtjakgjelnbpmnaaGreat
open Go Go.Vc
set_option maxRecDepth 10000
set_option maxHeartbeats 4000000
theorem app_last {H : List Blk} {x : Blk} : (H ++ [x])[H.length]? = some x := at_app rfl
section
variable {H : List Blk} {n c0 c1 c2 g0 g1 g2 b : Nat} {K : List UInt8} {D : List (List UInt8 × Nat)} {Q : List Int}
/-- The hasher's engine in the memory. -/
structure eAt (H : List Blk) (e : Nat) : Prop where
  a : bAt H e (hEng (e + 1) (e + 2))
  b : bAt H (e + 1) (bs hT1)
  c : bAt H (e + 2) (bs hT2)
theorem eAt.mono {H H2 : List Blk} {e : Nat} (h : eAt H e) (x : Ext H H2) : eAt H2 e := ⟨h.a.mono x, h.b.mono x, h.c.mono x⟩
theorem app_last2 {H : List Blk} {x y : Blk} : ((H ++ [x]) ++ [y])[H.length]? = some x := by rw [List.append_assoc]; exact at_app rfl
theorem app_last1 {H : List Blk} {x y : Blk} : ((H ++ [x]) ++ [y])[H.length + 1]? = some y := at_app (by simp)
end
theorem set_last {H : List Blk} {x y : Blk} : (H ++ [x]).set H.length y = H ++ [y] := by
  rw [List.set_append_right _ _ (Nat.le_refl _), Nat.sub_self]; rfl
end Go.Proofs.YtjakgjelnbpmnaaGreat
