import Derived.Test.YtjakgjelnbpmnaaGreatFieldM
import Derived.Test.YtjakgjelnbpmnaaGreatSlid
import Derived.Test.YtjakgjelnbpmnaaGreatByteSS
/- The laws' own helpers over slices of numbers: comparison, marks. -/
set_option linter.unusedSimpArgs false
set_option linter.unusedVariables false
namespace Go.Proofs.YtjakgjelnbpmnaaGreat
open Go Go.Vc
theorem take_succ_eqQ {a b : List Int} {i : Nat} (ha : i < a.length) (hb : i < b.length) (h : a.take i = b.take i) (e : a.getD i 0 = b.getD i 0) : a.take (i + 1) = b.take (i + 1) := by
  rw [List.take_add_one, List.take_add_one, h]
  simp only [List.getD, List.getElem?_eq_getElem ha, List.getElem?_eq_getElem hb, Option.getD_some] at e ⊢
  rw [e]
set_option maxRecDepth 10000
end Go.Proofs.YtjakgjelnbpmnaaGreat
/- The laws' own helpers over slices of pairs. -/
set_option linter.unusedSimpArgs false
set_option linter.unusedVariables false
namespace Go.Proofs.YtjakgjelnbpmnaaGreat
open Go Go.Vc
set_option maxRecDepth 10000
set_option maxHeartbeats 4000000
theorem iPs_get {P : List (Nat × Nat)} {i : Nat} {p : Nat × Nat} (h : P[i]? = some p) : (iPs P)[i]? = some (iP p) := by
  rw [iPs, List.getElem?_map, h]; rfl
end Go.Proofs.YtjakgjelnbpmnaaGreat
