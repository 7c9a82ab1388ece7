/-
  No cell of these rows narrows 'for every input' (looked for: loops, veiled, ifaces, maps, wideKeys, modest, calm, conditions, laid).
  DERIVED. THE GIVEN ROWS OF THIS SEAT. 4 by the template 'for every input the law returns true; each argument reads behind the call as it read before'; 0 by the template 'total and deterministic' (their statements: YtapagcnipdpfiaaTotals.lean).
  GIVEN WITH THE SEED: the statements are not yours to turn. If you find one false, say at which input.
  Laid BY PROGRAM, IN A SANDBOX (cutbox-rows.mjs): the forced cells as the released guide's own fill.sh prints them over the translation f66b94379faca926… (all of the seat's roots in one cut). By AI agents, Wed Nov 11 2026. No macro, syntax, notation, axiom, sorry.
-/
import Derived.Test.YtapagcnipdpfiaaChecked
import GoSem.Claim
import GoSem.ClaimJoined
import GoSem.ClaimMapViews
import Derived.JoinedTies
import Derived.KernelRfl
namespace Go.Proofs.Ytapagcnipdpfiaa
/- THE CELL 'sum', in the pinned program and in every row, IS THE sha256 OF THE DUMP (.gsa) THAT YtapagcnipdpfiaaProg.lean LOADS. Nothing in Lean hashes anything: it is a label: what it is worth is what the hold of that sum in a sandbox is worth. -/
noncomputable def Try.pinned : Pinned := { name := "ytapagcnipdpfiaa", sum := "f66b94379faca9261f0b756613aec485eb1e08eb7cbd2187b7b020f54d6ad5ae", checked := Try.checked }
namespace Rows
def none {H : Type} : Left H := { results := [], args := [] }

/-- 'laws.FnExactRunBack': WHATEVER THE INPUT: true; the input reads as it did. -/
def fnExactRunBackSpec : ChangeSpec := { name := "fnExactRunBack", fn := fun _ => fun
  | [d1, d2, d3] => { results := [.lit (.bool true)], args := [d1, d2, d3] }
  | _ => none }
def fnExactRunBackRow : OpenClaim := { program := "ytapagcnipdpfiaa", sum := "f66b94379faca9261f0b756613aec485eb1e08eb7cbd2187b7b020f54d6ad5ae", func := "loop.example/g01182/laws.FnExactRunBack", spec := "fnExactRunBack", unfollowed := true, recurses := true, apart := false }
def FnExactRunBackSaid : Prop := fnExactRunBackRow.holds Try.pinned (OpenSpec.ofChange fnExactRunBackSpec)

/-- ITS FALSE NEIGHBOUR: 'it returns false'. Refute it at one input. -/
def fnExactRunBackWrong : ChangeSpec := { name := "fnExactRunBack", fn := fun _ => fun
  | [d1, d2, d3] => { results := [.lit (.bool false)], args := [d1, d2, d3] }
  | _ => none }
def FnExactRunBackWrongFalsely : Prop := fnExactRunBackRow.holds Try.pinned (OpenSpec.ofChange fnExactRunBackWrong)

/-- 'laws.FnGrowths': WHATEVER THE INPUT: true; the input reads as it did. -/
def fnGrowthsSpec : ChangeSpec := { name := "fnGrowths", fn := fun _ => fun
  | [d] => { results := [.lit (.bool true)], args := [d] }
  | _ => none }
def fnGrowthsRow : OpenClaim := { program := "ytapagcnipdpfiaa", sum := "f66b94379faca9261f0b756613aec485eb1e08eb7cbd2187b7b020f54d6ad5ae", func := "loop.example/g01182/laws.FnGrowths", spec := "fnGrowths", recurses := true, apart := false }
def FnGrowthsSaid : Prop := fnGrowthsRow.holds Try.pinned (OpenSpec.ofChange fnGrowthsSpec)

/-- ITS FALSE NEIGHBOUR: 'it returns false'. Refute it at one input. -/
def fnGrowthsWrong : ChangeSpec := { name := "fnGrowths", fn := fun _ => fun
  | [d] => { results := [.lit (.bool false)], args := [d] }
  | _ => none }
def FnGrowthsWrongFalsely : Prop := fnGrowthsRow.holds Try.pinned (OpenSpec.ofChange fnGrowthsWrong)

/-- 'laws.FnExactAbsenceOf': WHATEVER THE INPUT: true; the input reads as it did. -/
def fnExactAbsenceOfSpec : ChangeSpec := { name := "fnExactAbsenceOf", fn := fun _ => fun
  | [d1, d2] => { results := [.lit (.bool true)], args := [d1, d2] }
  | _ => none }
def fnExactAbsenceOfRow : OpenClaim := { program := "ytapagcnipdpfiaa", sum := "f66b94379faca9261f0b756613aec485eb1e08eb7cbd2187b7b020f54d6ad5ae", func := "loop.example/g01182/laws.FnExactAbsenceOf", spec := "fnExactAbsenceOf", inPlace := ["internal/bytealg.Compare"], unfollowed := true, recurses := true, apart := false }
def FnExactAbsenceOfSaid : Prop := fnExactAbsenceOfRow.holds Try.pinned (OpenSpec.ofChange fnExactAbsenceOfSpec)

/-- ITS FALSE NEIGHBOUR: 'it returns false'. Refute it at one input. -/
def fnExactAbsenceOfWrong : ChangeSpec := { name := "fnExactAbsenceOf", fn := fun _ => fun
  | [d1, d2] => { results := [.lit (.bool false)], args := [d1, d2] }
  | _ => none }
def FnExactAbsenceOfWrongFalsely : Prop := fnExactAbsenceOfRow.holds Try.pinned (OpenSpec.ofChange fnExactAbsenceOfWrong)

/-- 'laws.FnTrees': WHATEVER THE INPUT: true; the input reads as it did. -/
def fnTreesSpec : ChangeSpec := { name := "fnTrees", fn := fun _ => fun
  | [d] => { results := [.lit (.bool true)], args := [d] }
  | _ => none }
def fnTreesRow : OpenClaim := { program := "ytapagcnipdpfiaa", sum := "f66b94379faca9261f0b756613aec485eb1e08eb7cbd2187b7b020f54d6ad5ae", func := "loop.example/g01182/laws.FnTrees", spec := "fnTrees", recurses := true, apart := false }
def FnTreesSaid : Prop := fnTreesRow.holds Try.pinned (OpenSpec.ofChange fnTreesSpec)

/-- ITS FALSE NEIGHBOUR: 'it returns false'. Refute it at one input. -/
def fnTreesWrong : ChangeSpec := { name := "fnTrees", fn := fun _ => fun
  | [d] => { results := [.lit (.bool false)], args := [d] }
  | _ => none }
def FnTreesWrongFalsely : Prop := fnTreesRow.holds Try.pinned (OpenSpec.ofChange fnTreesWrong)

/- THE SECOND FORM. 'bulk': how many values and letters a reading holds, each counted each time it is reached (what is shared counts as often as it is met; a slice's spare places count too). A statement '..UptoSaid' is the law's where the arguments, and the package variables that the reading takes, are together of bulk at most 1048576: NARROWER than '..Said'. Prove '..Said' where nothing that the law and all that it calls make is longer than what came in: it says more and counts as full. Else prove '..UptoSaid'. A law counts once. -/
mutual
def uptoBulk {H : Type} : DataW H → Nat
  | .lit (.string bytes) => bytes.length + 1
  | .lit _ => 1
  | .nil => 1
  | .ptr d => uptoBulk d + 1
  | .slice elems spare => uptoBulkAll elems + uptoBulkAll spare + 1
  | .agg parts => uptoBulkAll parts + 1
  | .iface _ d => uptoBulk d + 1
  | .map entries => uptoBulkEntries entries + 1
  | .held _ => 1
def uptoBulkAll {H : Type} : List (DataW H) → Nat
  | [] => 0
  | d :: r => uptoBulk d + uptoBulkAll r
def uptoBulkEntries {H : Type} : List (Lit × DataW H) → Nat
  | [] => 0
  | x :: r => uptoBulkEntry x + uptoBulkEntries r
def uptoBulkEntry {H : Type} : Lit × DataW H → Nat
  | (.string bytes, d) => bytes.length + uptoBulk d + 1
  | (_, d) => uptoBulk d + 1
 end
def uptoSmall : (H : Type) → List (DataW H) → Bool := fun _ ds => decide (uptoBulkAll ds ≤ 1048576)
def OpenSpec.upto (s : _root_.Go.ChangeSpec) : _root_.Go.OpenSpec := { _root_.Go.OpenSpec.ofChange s with cond := some uptoSmall }

/-- 'laws.FnExactRunBack', WHERE WHAT IT READS IS OF BULK AT MOST 1048576: true; the input reads as it did. -/
def fnExactRunBackUptoRow : OpenClaim := { program := "ytapagcnipdpfiaa", sum := "f66b94379faca9261f0b756613aec485eb1e08eb7cbd2187b7b020f54d6ad5ae", func := "loop.example/g01182/laws.FnExactRunBack", spec := "fnExactRunBack", unfollowed := true, recurses := true, apart := false, narrowed := true }
def FnExactRunBackUptoSaid : Prop := fnExactRunBackUptoRow.holds Try.pinned (OpenSpec.upto fnExactRunBackSpec)

/-- 'laws.FnGrowths', WHERE WHAT IT READS IS OF BULK AT MOST 1048576: true; the input reads as it did. -/
def fnGrowthsUptoRow : OpenClaim := { program := "ytapagcnipdpfiaa", sum := "f66b94379faca9261f0b756613aec485eb1e08eb7cbd2187b7b020f54d6ad5ae", func := "loop.example/g01182/laws.FnGrowths", spec := "fnGrowths", recurses := true, apart := false, narrowed := true }
def FnGrowthsUptoSaid : Prop := fnGrowthsUptoRow.holds Try.pinned (OpenSpec.upto fnGrowthsSpec)

/-- 'laws.FnExactAbsenceOf', WHERE WHAT IT READS IS OF BULK AT MOST 1048576: true; the input reads as it did. -/
def fnExactAbsenceOfUptoRow : OpenClaim := { program := "ytapagcnipdpfiaa", sum := "f66b94379faca9261f0b756613aec485eb1e08eb7cbd2187b7b020f54d6ad5ae", func := "loop.example/g01182/laws.FnExactAbsenceOf", spec := "fnExactAbsenceOf", inPlace := ["internal/bytealg.Compare"], unfollowed := true, recurses := true, apart := false, narrowed := true }
def FnExactAbsenceOfUptoSaid : Prop := fnExactAbsenceOfUptoRow.holds Try.pinned (OpenSpec.upto fnExactAbsenceOfSpec)

/-- 'laws.FnTrees', WHERE WHAT IT READS IS OF BULK AT MOST 1048576: true; the input reads as it did. -/
def fnTreesUptoRow : OpenClaim := { program := "ytapagcnipdpfiaa", sum := "f66b94379faca9261f0b756613aec485eb1e08eb7cbd2187b7b020f54d6ad5ae", func := "loop.example/g01182/laws.FnTrees", spec := "fnTrees", recurses := true, apart := false, narrowed := true }
def FnTreesUptoSaid : Prop := fnTreesUptoRow.holds Try.pinned (OpenSpec.upto fnTreesSpec)

end Rows
end Go.Proofs.Ytapagcnipdpfiaa
