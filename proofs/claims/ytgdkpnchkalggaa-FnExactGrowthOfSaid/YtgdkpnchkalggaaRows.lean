/-
  No cell of these rows narrows 'for every input' (looked for: loops, veiled, ifaces, maps, wideKeys, modest, calm, conditions, laid).
  DERIVED. THE GIVEN ROWS OF THIS SEAT. 10 by the template 'for every input the law returns true; each argument reads behind the call as it read before'; 0 by the template 'total and deterministic' (their statements: YtgdkpnchkalggaaTotals.lean).
  GIVEN WITH THE SEED: the statements are not yours to turn. If you find one false, say at which input.
  Laid BY PROGRAM, IN A SANDBOX (cutbox-rows.mjs): the forced cells as the released guide's own fill.sh prints them over the translation 41ec941ff3df63d5… (all of the seat's roots in one cut). By AI agents, Wed Nov 11 2026. No macro, syntax, notation, axiom, sorry.
-/
import Derived.Test.YtgdkpnchkalggaaChecked
import GoSem.Claim
import GoSem.ClaimJoined
import GoSem.ClaimMapViews
import Derived.JoinedTies
import Derived.KernelRfl
namespace Go.Proofs.Ytgdkpnchkalggaa
/- THE CELL 'sum', in the pinned program and in every row, IS THE sha256 OF THE DUMP (.gsa) THAT YtgdkpnchkalggaaProg.lean LOADS. Nothing in Lean hashes anything: it is a label: what it is worth is what the hold of that sum in a sandbox is worth. -/
noncomputable def Try.pinned : Pinned := { name := "ytgdkpnchkalggaa", sum := "41ec941ff3df63d54647afa3201273461e87d5d6a382d24fefcb9023444e2864", checked := Try.checked }
namespace Rows
def none {H : Type} : Left H := { results := [], args := [] }

/-- 'laws.FnExactIsProof': WHATEVER THE INPUT: true; the input reads as it did. -/
def fnExactIsProofSpec : ChangeSpec := { name := "fnExactIsProof", fn := fun _ => fun
  | [d1, d2, d3, d4, d5] => { results := [.lit (.bool true)], args := [d1, d2, d3, d4, d5] }
  | _ => none }
def fnExactIsProofRow : OpenClaim := { program := "ytgdkpnchkalggaa", sum := "41ec941ff3df63d54647afa3201273461e87d5d6a382d24fefcb9023444e2864", func := "loop.example/g01182/laws.FnExactIsProof", spec := "fnExactIsProof", recurses := true, apart := false }
def FnExactIsProofSaid : Prop := fnExactIsProofRow.holds Try.pinned (OpenSpec.ofChange fnExactIsProofSpec)

/-- ITS FALSE NEIGHBOUR: 'it returns false'. Refute it at one input. -/
def fnExactIsProofWrong : ChangeSpec := { name := "fnExactIsProof", fn := fun _ => fun
  | [d1, d2, d3, d4, d5] => { results := [.lit (.bool false)], args := [d1, d2, d3, d4, d5] }
  | _ => none }
def FnExactIsProofWrongFalsely : Prop := fnExactIsProofRow.holds Try.pinned (OpenSpec.ofChange fnExactIsProofWrong)

/-- 'laws.FnExactIsGrowth': WHATEVER THE INPUT: true; the input reads as it did. -/
def fnExactIsGrowthSpec : ChangeSpec := { name := "fnExactIsGrowth", fn := fun _ => fun
  | [d1, d2, d3, d4, d5] => { results := [.lit (.bool true)], args := [d1, d2, d3, d4, d5] }
  | _ => none }
def fnExactIsGrowthRow : OpenClaim := { program := "ytgdkpnchkalggaa", sum := "41ec941ff3df63d54647afa3201273461e87d5d6a382d24fefcb9023444e2864", func := "loop.example/g01182/laws.FnExactIsGrowth", spec := "fnExactIsGrowth", recurses := true, apart := false }
def FnExactIsGrowthSaid : Prop := fnExactIsGrowthRow.holds Try.pinned (OpenSpec.ofChange fnExactIsGrowthSpec)

/-- ITS FALSE NEIGHBOUR: 'it returns false'. Refute it at one input. -/
def fnExactIsGrowthWrong : ChangeSpec := { name := "fnExactIsGrowth", fn := fun _ => fun
  | [d1, d2, d3, d4, d5] => { results := [.lit (.bool false)], args := [d1, d2, d3, d4, d5] }
  | _ => none }
def FnExactIsGrowthWrongFalsely : Prop := fnExactIsGrowthRow.holds Try.pinned (OpenSpec.ofChange fnExactIsGrowthWrong)

/-- 'laws.FnExactProofOf': WHATEVER THE INPUT: true; the input reads as it did. -/
def fnExactProofOfSpec : ChangeSpec := { name := "fnExactProofOf", fn := fun _ => fun
  | [d1, d2] => { results := [.lit (.bool true)], args := [d1, d2] }
  | _ => none }
def fnExactProofOfRow : OpenClaim := { program := "ytgdkpnchkalggaa", sum := "41ec941ff3df63d54647afa3201273461e87d5d6a382d24fefcb9023444e2864", func := "loop.example/g01182/laws.FnExactProofOf", spec := "fnExactProofOf", recurses := true, apart := false }
def FnExactProofOfSaid : Prop := fnExactProofOfRow.holds Try.pinned (OpenSpec.ofChange fnExactProofOfSpec)

/-- ITS FALSE NEIGHBOUR: 'it returns false'. Refute it at one input. -/
def fnExactProofOfWrong : ChangeSpec := { name := "fnExactProofOf", fn := fun _ => fun
  | [d1, d2] => { results := [.lit (.bool false)], args := [d1, d2] }
  | _ => none }
def FnExactProofOfWrongFalsely : Prop := fnExactProofOfRow.holds Try.pinned (OpenSpec.ofChange fnExactProofOfWrong)

/-- 'laws.FnExactGrowthOf': WHATEVER THE INPUT: true; the input reads as it did. -/
def fnExactGrowthOfSpec : ChangeSpec := { name := "fnExactGrowthOf", fn := fun _ => fun
  | [d1, d2] => { results := [.lit (.bool true)], args := [d1, d2] }
  | _ => none }
def fnExactGrowthOfRow : OpenClaim := { program := "ytgdkpnchkalggaa", sum := "41ec941ff3df63d54647afa3201273461e87d5d6a382d24fefcb9023444e2864", func := "loop.example/g01182/laws.FnExactGrowthOf", spec := "fnExactGrowthOf", recurses := true, apart := false }
def FnExactGrowthOfSaid : Prop := fnExactGrowthOfRow.holds Try.pinned (OpenSpec.ofChange fnExactGrowthOfSpec)

/-- ITS FALSE NEIGHBOUR: 'it returns false'. Refute it at one input. -/
def fnExactGrowthOfWrong : ChangeSpec := { name := "fnExactGrowthOf", fn := fun _ => fun
  | [d1, d2] => { results := [.lit (.bool false)], args := [d1, d2] }
  | _ => none }
def FnExactGrowthOfWrongFalsely : Prop := fnExactGrowthOfRow.holds Try.pinned (OpenSpec.ofChange fnExactGrowthOfWrong)

/-- 'laws.FnExactIsBlobs': WHATEVER THE INPUT: true; the input reads as it did. -/
def fnExactIsBlobsSpec : ChangeSpec := { name := "fnExactIsBlobs", fn := fun _ => fun
  | [d] => { results := [.lit (.bool true)], args := [d] }
  | _ => none }
def fnExactIsBlobsRow : OpenClaim := { program := "ytgdkpnchkalggaa", sum := "41ec941ff3df63d54647afa3201273461e87d5d6a382d24fefcb9023444e2864", func := "loop.example/g01182/laws.FnExactIsBlobs", spec := "fnExactIsBlobs", inPlace := ["internal/bytealg.Compare"], apart := false }
def FnExactIsBlobsSaid : Prop := fnExactIsBlobsRow.holds Try.pinned (OpenSpec.ofChange fnExactIsBlobsSpec)

/-- ITS FALSE NEIGHBOUR: 'it returns false'. Refute it at one input. -/
def fnExactIsBlobsWrong : ChangeSpec := { name := "fnExactIsBlobs", fn := fun _ => fun
  | [d] => { results := [.lit (.bool false)], args := [d] }
  | _ => none }
def FnExactIsBlobsWrongFalsely : Prop := fnExactIsBlobsRow.holds Try.pinned (OpenSpec.ofChange fnExactIsBlobsWrong)

/-- 'laws.FnExactIsAbsence': WHATEVER THE INPUT: true; the input reads as it did. -/
def fnExactIsAbsenceSpec : ChangeSpec := { name := "fnExactIsAbsence", fn := fun _ => fun
  | [d1, d2, d3, d4] => { results := [.lit (.bool true)], args := [d1, d2, d3, d4] }
  | _ => none }
def fnExactIsAbsenceRow : OpenClaim := { program := "ytgdkpnchkalggaa", sum := "41ec941ff3df63d54647afa3201273461e87d5d6a382d24fefcb9023444e2864", func := "loop.example/g01182/laws.FnExactIsAbsence", spec := "fnExactIsAbsence", inPlace := ["internal/bytealg.Compare"], recurses := true, apart := false }
def FnExactIsAbsenceSaid : Prop := fnExactIsAbsenceRow.holds Try.pinned (OpenSpec.ofChange fnExactIsAbsenceSpec)

/-- ITS FALSE NEIGHBOUR: 'it returns false'. Refute it at one input. -/
def fnExactIsAbsenceWrong : ChangeSpec := { name := "fnExactIsAbsence", fn := fun _ => fun
  | [d1, d2, d3, d4] => { results := [.lit (.bool false)], args := [d1, d2, d3, d4] }
  | _ => none }
def FnExactIsAbsenceWrongFalsely : Prop := fnExactIsAbsenceRow.holds Try.pinned (OpenSpec.ofChange fnExactIsAbsenceWrong)

/-- 'laws.FnGrowths': WHATEVER THE INPUT: true; the input reads as it did. -/
def fnGrowthsSpec : ChangeSpec := { name := "fnGrowths", fn := fun _ => fun
  | [d] => { results := [.lit (.bool true)], args := [d] }
  | _ => none }
def fnGrowthsRow : OpenClaim := { program := "ytgdkpnchkalggaa", sum := "41ec941ff3df63d54647afa3201273461e87d5d6a382d24fefcb9023444e2864", func := "loop.example/g01182/laws.FnGrowths", spec := "fnGrowths", recurses := true, apart := false }
def FnGrowthsSaid : Prop := fnGrowthsRow.holds Try.pinned (OpenSpec.ofChange fnGrowthsSpec)

/-- ITS FALSE NEIGHBOUR: 'it returns false'. Refute it at one input. -/
def fnGrowthsWrong : ChangeSpec := { name := "fnGrowths", fn := fun _ => fun
  | [d] => { results := [.lit (.bool false)], args := [d] }
  | _ => none }
def FnGrowthsWrongFalsely : Prop := fnGrowthsRow.holds Try.pinned (OpenSpec.ofChange fnGrowthsWrong)

/-- 'laws.FnExactAbsenceOf': WHATEVER THE INPUT: true; the input reads as it did. -/
def fnExactAbsenceOfSpec : ChangeSpec := { name := "fnExactAbsenceOf", fn := fun _ => fun
  | [d1, d2] => { results := [.lit (.bool true)], args := [d1, d2] }
  | _ => none }
def fnExactAbsenceOfRow : OpenClaim := { program := "ytgdkpnchkalggaa", sum := "41ec941ff3df63d54647afa3201273461e87d5d6a382d24fefcb9023444e2864", func := "loop.example/g01182/laws.FnExactAbsenceOf", spec := "fnExactAbsenceOf", inPlace := ["internal/bytealg.Compare"], unfollowed := true, recurses := true, apart := false }
def FnExactAbsenceOfSaid : Prop := fnExactAbsenceOfRow.holds Try.pinned (OpenSpec.ofChange fnExactAbsenceOfSpec)

/-- ITS FALSE NEIGHBOUR: 'it returns false'. Refute it at one input. -/
def fnExactAbsenceOfWrong : ChangeSpec := { name := "fnExactAbsenceOf", fn := fun _ => fun
  | [d1, d2] => { results := [.lit (.bool false)], args := [d1, d2] }
  | _ => none }
def FnExactAbsenceOfWrongFalsely : Prop := fnExactAbsenceOfRow.holds Try.pinned (OpenSpec.ofChange fnExactAbsenceOfWrong)

/-- 'laws.FnExactRootOfBlobs': WHATEVER THE INPUT: true; the input reads as it did. -/
def fnExactRootOfBlobsSpec : ChangeSpec := { name := "fnExactRootOfBlobs", fn := fun _ => fun
  | [d] => { results := [.lit (.bool true)], args := [d] }
  | _ => none }
def fnExactRootOfBlobsRow : OpenClaim := { program := "ytgdkpnchkalggaa", sum := "41ec941ff3df63d54647afa3201273461e87d5d6a382d24fefcb9023444e2864", func := "loop.example/g01182/laws.FnExactRootOfBlobs", spec := "fnExactRootOfBlobs", inPlace := ["internal/bytealg.Compare"], recurses := true, apart := false }
def FnExactRootOfBlobsSaid : Prop := fnExactRootOfBlobsRow.holds Try.pinned (OpenSpec.ofChange fnExactRootOfBlobsSpec)

/-- ITS FALSE NEIGHBOUR: 'it returns false'. Refute it at one input. -/
def fnExactRootOfBlobsWrong : ChangeSpec := { name := "fnExactRootOfBlobs", fn := fun _ => fun
  | [d] => { results := [.lit (.bool false)], args := [d] }
  | _ => none }
def FnExactRootOfBlobsWrongFalsely : Prop := fnExactRootOfBlobsRow.holds Try.pinned (OpenSpec.ofChange fnExactRootOfBlobsWrong)

/-- 'laws.FnTrees': WHATEVER THE INPUT: true; the input reads as it did. -/
def fnTreesSpec : ChangeSpec := { name := "fnTrees", fn := fun _ => fun
  | [d] => { results := [.lit (.bool true)], args := [d] }
  | _ => none }
def fnTreesRow : OpenClaim := { program := "ytgdkpnchkalggaa", sum := "41ec941ff3df63d54647afa3201273461e87d5d6a382d24fefcb9023444e2864", func := "loop.example/g01182/laws.FnTrees", spec := "fnTrees", recurses := true, apart := false }
def FnTreesSaid : Prop := fnTreesRow.holds Try.pinned (OpenSpec.ofChange fnTreesSpec)

/-- ITS FALSE NEIGHBOUR: 'it returns false'. Refute it at one input. -/
def fnTreesWrong : ChangeSpec := { name := "fnTrees", fn := fun _ => fun
  | [d] => { results := [.lit (.bool false)], args := [d] }
  | _ => none }
def FnTreesWrongFalsely : Prop := fnTreesRow.holds Try.pinned (OpenSpec.ofChange fnTreesWrong)

/- THE SECOND FORM. 'bulk': how many values and letters a reading holds, each counted each time it is reached (what is shared counts as often as it is met; a slice's spare places count too). A statement '..UptoSaid' is the law's where the arguments, and the package variables that the reading takes, are together of bulk at most 1048576: NARROWER than '..Said'. Prove '..Said' where nothing that the law and all that it calls make is longer than what came in: it says more and counts as full. Else prove '..UptoSaid'. A law counts once. -/
mutual
def uptoBulk {H : Type} : DataW H → Nat
  | .lit (.string bytes) => bytes.length + 1
  | .lit _ => 1
  | .nil => 1
  | .ptr d => uptoBulk d + 1
  | .slice elems spare => uptoBulkAll elems + uptoBulkAll spare + 1
  | .agg parts => uptoBulkAll parts + 1
  | .iface _ d => uptoBulk d + 1
  | .map entries => uptoBulkEntries entries + 1
  | .held _ => 1
def uptoBulkAll {H : Type} : List (DataW H) → Nat
  | [] => 0
  | d :: r => uptoBulk d + uptoBulkAll r
def uptoBulkEntries {H : Type} : List (Lit × DataW H) → Nat
  | [] => 0
  | x :: r => uptoBulkEntry x + uptoBulkEntries r
def uptoBulkEntry {H : Type} : Lit × DataW H → Nat
  | (.string bytes, d) => bytes.length + uptoBulk d + 1
  | (_, d) => uptoBulk d + 1
 end
def uptoSmall : (H : Type) → List (DataW H) → Bool := fun _ ds => decide (uptoBulkAll ds ≤ 1048576)
def OpenSpec.upto (s : _root_.Go.ChangeSpec) : _root_.Go.OpenSpec := { _root_.Go.OpenSpec.ofChange s with cond := some uptoSmall }

/-- 'laws.FnExactIsProof', WHERE WHAT IT READS IS OF BULK AT MOST 1048576: true; the input reads as it did. -/
def fnExactIsProofUptoRow : OpenClaim := { program := "ytgdkpnchkalggaa", sum := "41ec941ff3df63d54647afa3201273461e87d5d6a382d24fefcb9023444e2864", func := "loop.example/g01182/laws.FnExactIsProof", spec := "fnExactIsProof", recurses := true, apart := false, narrowed := true }
def FnExactIsProofUptoSaid : Prop := fnExactIsProofUptoRow.holds Try.pinned (OpenSpec.upto fnExactIsProofSpec)

/-- 'laws.FnExactIsGrowth', WHERE WHAT IT READS IS OF BULK AT MOST 1048576: true; the input reads as it did. -/
def fnExactIsGrowthUptoRow : OpenClaim := { program := "ytgdkpnchkalggaa", sum := "41ec941ff3df63d54647afa3201273461e87d5d6a382d24fefcb9023444e2864", func := "loop.example/g01182/laws.FnExactIsGrowth", spec := "fnExactIsGrowth", recurses := true, apart := false, narrowed := true }
def FnExactIsGrowthUptoSaid : Prop := fnExactIsGrowthUptoRow.holds Try.pinned (OpenSpec.upto fnExactIsGrowthSpec)

/-- 'laws.FnExactProofOf', WHERE WHAT IT READS IS OF BULK AT MOST 1048576: true; the input reads as it did. -/
def fnExactProofOfUptoRow : OpenClaim := { program := "ytgdkpnchkalggaa", sum := "41ec941ff3df63d54647afa3201273461e87d5d6a382d24fefcb9023444e2864", func := "loop.example/g01182/laws.FnExactProofOf", spec := "fnExactProofOf", recurses := true, apart := false, narrowed := true }
def FnExactProofOfUptoSaid : Prop := fnExactProofOfUptoRow.holds Try.pinned (OpenSpec.upto fnExactProofOfSpec)

/-- 'laws.FnExactGrowthOf', WHERE WHAT IT READS IS OF BULK AT MOST 1048576: true; the input reads as it did. -/
def fnExactGrowthOfUptoRow : OpenClaim := { program := "ytgdkpnchkalggaa", sum := "41ec941ff3df63d54647afa3201273461e87d5d6a382d24fefcb9023444e2864", func := "loop.example/g01182/laws.FnExactGrowthOf", spec := "fnExactGrowthOf", recurses := true, apart := false, narrowed := true }
def FnExactGrowthOfUptoSaid : Prop := fnExactGrowthOfUptoRow.holds Try.pinned (OpenSpec.upto fnExactGrowthOfSpec)

/-- 'laws.FnExactIsBlobs', WHERE WHAT IT READS IS OF BULK AT MOST 1048576: true; the input reads as it did. -/
def fnExactIsBlobsUptoRow : OpenClaim := { program := "ytgdkpnchkalggaa", sum := "41ec941ff3df63d54647afa3201273461e87d5d6a382d24fefcb9023444e2864", func := "loop.example/g01182/laws.FnExactIsBlobs", spec := "fnExactIsBlobs", inPlace := ["internal/bytealg.Compare"], apart := false, narrowed := true }
def FnExactIsBlobsUptoSaid : Prop := fnExactIsBlobsUptoRow.holds Try.pinned (OpenSpec.upto fnExactIsBlobsSpec)

/-- 'laws.FnExactIsAbsence', WHERE WHAT IT READS IS OF BULK AT MOST 1048576: true; the input reads as it did. -/
def fnExactIsAbsenceUptoRow : OpenClaim := { program := "ytgdkpnchkalggaa", sum := "41ec941ff3df63d54647afa3201273461e87d5d6a382d24fefcb9023444e2864", func := "loop.example/g01182/laws.FnExactIsAbsence", spec := "fnExactIsAbsence", inPlace := ["internal/bytealg.Compare"], recurses := true, apart := false, narrowed := true }
def FnExactIsAbsenceUptoSaid : Prop := fnExactIsAbsenceUptoRow.holds Try.pinned (OpenSpec.upto fnExactIsAbsenceSpec)

/-- 'laws.FnGrowths', WHERE WHAT IT READS IS OF BULK AT MOST 1048576: true; the input reads as it did. -/
def fnGrowthsUptoRow : OpenClaim := { program := "ytgdkpnchkalggaa", sum := "41ec941ff3df63d54647afa3201273461e87d5d6a382d24fefcb9023444e2864", func := "loop.example/g01182/laws.FnGrowths", spec := "fnGrowths", recurses := true, apart := false, narrowed := true }
def FnGrowthsUptoSaid : Prop := fnGrowthsUptoRow.holds Try.pinned (OpenSpec.upto fnGrowthsSpec)

/-- 'laws.FnExactAbsenceOf', WHERE WHAT IT READS IS OF BULK AT MOST 1048576: true; the input reads as it did. -/
def fnExactAbsenceOfUptoRow : OpenClaim := { program := "ytgdkpnchkalggaa", sum := "41ec941ff3df63d54647afa3201273461e87d5d6a382d24fefcb9023444e2864", func := "loop.example/g01182/laws.FnExactAbsenceOf", spec := "fnExactAbsenceOf", inPlace := ["internal/bytealg.Compare"], unfollowed := true, recurses := true, apart := false, narrowed := true }
def FnExactAbsenceOfUptoSaid : Prop := fnExactAbsenceOfUptoRow.holds Try.pinned (OpenSpec.upto fnExactAbsenceOfSpec)

/-- 'laws.FnExactRootOfBlobs', WHERE WHAT IT READS IS OF BULK AT MOST 1048576: true; the input reads as it did. -/
def fnExactRootOfBlobsUptoRow : OpenClaim := { program := "ytgdkpnchkalggaa", sum := "41ec941ff3df63d54647afa3201273461e87d5d6a382d24fefcb9023444e2864", func := "loop.example/g01182/laws.FnExactRootOfBlobs", spec := "fnExactRootOfBlobs", inPlace := ["internal/bytealg.Compare"], recurses := true, apart := false, narrowed := true }
def FnExactRootOfBlobsUptoSaid : Prop := fnExactRootOfBlobsUptoRow.holds Try.pinned (OpenSpec.upto fnExactRootOfBlobsSpec)

/-- 'laws.FnTrees', WHERE WHAT IT READS IS OF BULK AT MOST 1048576: true; the input reads as it did. -/
def fnTreesUptoRow : OpenClaim := { program := "ytgdkpnchkalggaa", sum := "41ec941ff3df63d54647afa3201273461e87d5d6a382d24fefcb9023444e2864", func := "loop.example/g01182/laws.FnTrees", spec := "fnTrees", recurses := true, apart := false, narrowed := true }
def FnTreesUptoSaid : Prop := fnTreesUptoRow.holds Try.pinned (OpenSpec.upto fnTreesSpec)

end Rows
end Go.Proofs.Ytgdkpnchkalggaa
