/-
  No cell of these rows narrows 'for every input' (looked for: loops, veiled, ifaces, maps, wideKeys, modest, calm, conditions, laid).
  DERIVED. THE GIVEN ROWS OF THIS SEAT. 10 by the template 'for every input the law returns true; each argument reads behind the call as it read before'; 0 by the template 'total and deterministic' (their statements: YtpapocmoielldaaTotals.lean).
  GIVEN WITH THE SEED: the statements are not yours to turn. If you find one false, say at which input.
  Laid BY PROGRAM, IN A SANDBOX (cutbox-rows.mjs): the forced cells as the released guide's own fill.sh prints them over the translation 091cfc4010cf47d5… (all of the seat's roots in one cut). By AI agents, Wed Nov 11 2026. No macro, syntax, notation, axiom, sorry.
-/
import Derived.Test.YtpapocmoielldaaChecked
import GoSem.Claim
import GoSem.ClaimJoined
import GoSem.ClaimMapViews
import Derived.JoinedTies
import Derived.KernelRfl
namespace Go.Proofs.Ytpapocmoielldaa
/- THE CELL 'sum', in the pinned program and in every row, IS THE sha256 OF THE DUMP (.gsa) THAT YtpapocmoielldaaProg.lean LOADS. Nothing in Lean hashes anything: it is a label: what it is worth is what the hold of that sum in a sandbox is worth. -/
noncomputable def Try.pinned : Pinned := { name := "ytpapocmoielldaa", sum := "091cfc4010cf47d57374b48e9904e9ff06d948533ae828b4e928498ec247a363", checked := Try.checked }
namespace Rows
def none {H : Type} : Left H := { results := [], args := [] }

/-- 'laws.FnExactFeedbackEncipher': WHATEVER THE INPUT: true; the input reads as it did. -/
def fnExactFeedbackEncipherSpec : ChangeSpec := { name := "fnExactFeedbackEncipher", fn := fun _ => fun
  | [d1, d2, d3, d4] => { results := [.lit (.bool true)], args := [d1, d2, d3, d4] }
  | _ => none }
def fnExactFeedbackEncipherRow : OpenClaim := { program := "ytpapocmoielldaa", sum := "091cfc4010cf47d57374b48e9904e9ff06d948533ae828b4e928498ec247a363", func := "loop.example/g01182/laws.FnExactFeedbackEncipher", spec := "fnExactFeedbackEncipher", inPlace := ["internal/bytealg.IndexByte"], apart := false }
def FnExactFeedbackEncipherSaid : Prop := fnExactFeedbackEncipherRow.holds Try.pinned (OpenSpec.ofChange fnExactFeedbackEncipherSpec)

/-- ITS FALSE NEIGHBOUR: 'it returns false'. Refute it at one input. -/
def fnExactFeedbackEncipherWrong : ChangeSpec := { name := "fnExactFeedbackEncipher", fn := fun _ => fun
  | [d1, d2, d3, d4] => { results := [.lit (.bool false)], args := [d1, d2, d3, d4] }
  | _ => none }
def FnExactFeedbackEncipherWrongFalsely : Prop := fnExactFeedbackEncipherRow.holds Try.pinned (OpenSpec.ofChange fnExactFeedbackEncipherWrong)

/-- 'laws.FnExactFeedbackDecipher': WHATEVER THE INPUT: true; the input reads as it did. -/
def fnExactFeedbackDecipherSpec : ChangeSpec := { name := "fnExactFeedbackDecipher", fn := fun _ => fun
  | [d1, d2, d3, d4] => { results := [.lit (.bool true)], args := [d1, d2, d3, d4] }
  | _ => none }
def fnExactFeedbackDecipherRow : OpenClaim := { program := "ytpapocmoielldaa", sum := "091cfc4010cf47d57374b48e9904e9ff06d948533ae828b4e928498ec247a363", func := "loop.example/g01182/laws.FnExactFeedbackDecipher", spec := "fnExactFeedbackDecipher", inPlace := ["internal/bytealg.IndexByte"], apart := false }
def FnExactFeedbackDecipherSaid : Prop := fnExactFeedbackDecipherRow.holds Try.pinned (OpenSpec.ofChange fnExactFeedbackDecipherSpec)

/-- ITS FALSE NEIGHBOUR: 'it returns false'. Refute it at one input. -/
def fnExactFeedbackDecipherWrong : ChangeSpec := { name := "fnExactFeedbackDecipher", fn := fun _ => fun
  | [d1, d2, d3, d4] => { results := [.lit (.bool false)], args := [d1, d2, d3, d4] }
  | _ => none }
def FnExactFeedbackDecipherWrongFalsely : Prop := fnExactFeedbackDecipherRow.holds Try.pinned (OpenSpec.ofChange fnExactFeedbackDecipherWrong)

/-- 'laws.FnExactCountData': WHATEVER THE INPUT: true; the input reads as it did. -/
def fnExactCountDataSpec : ChangeSpec := { name := "fnExactCountData", fn := fun _ => fun
  | [d1, d2, d3, d4] => { results := [.lit (.bool true)], args := [d1, d2, d3, d4] }
  | _ => none }
def fnExactCountDataRow : OpenClaim := { program := "ytpapocmoielldaa", sum := "091cfc4010cf47d57374b48e9904e9ff06d948533ae828b4e928498ec247a363", func := "loop.example/g01182/laws.FnExactCountData", spec := "fnExactCountData", inPlace := ["internal/bytealg.IndexByte"], apart := false }
def FnExactCountDataSaid : Prop := fnExactCountDataRow.holds Try.pinned (OpenSpec.ofChange fnExactCountDataSpec)

/-- ITS FALSE NEIGHBOUR: 'it returns false'. Refute it at one input. -/
def fnExactCountDataWrong : ChangeSpec := { name := "fnExactCountData", fn := fun _ => fun
  | [d1, d2, d3, d4] => { results := [.lit (.bool false)], args := [d1, d2, d3, d4] }
  | _ => none }
def FnExactCountDataWrongFalsely : Prop := fnExactCountDataRow.holds Try.pinned (OpenSpec.ofChange fnExactCountDataWrong)

/-- 'laws.FnExactChainEncipher': WHATEVER THE INPUT: true; the input reads as it did. -/
def fnExactChainEncipherSpec : ChangeSpec := { name := "fnExactChainEncipher", fn := fun _ => fun
  | [d1, d2, d3, d4] => { results := [.lit (.bool true)], args := [d1, d2, d3, d4] }
  | _ => none }
def fnExactChainEncipherRow : OpenClaim := { program := "ytpapocmoielldaa", sum := "091cfc4010cf47d57374b48e9904e9ff06d948533ae828b4e928498ec247a363", func := "loop.example/g01182/laws.FnExactChainEncipher", spec := "fnExactChainEncipher", inPlace := ["internal/bytealg.IndexByte"], apart := false }
def FnExactChainEncipherSaid : Prop := fnExactChainEncipherRow.holds Try.pinned (OpenSpec.ofChange fnExactChainEncipherSpec)

/-- ITS FALSE NEIGHBOUR: 'it returns false'. Refute it at one input. -/
def fnExactChainEncipherWrong : ChangeSpec := { name := "fnExactChainEncipher", fn := fun _ => fun
  | [d1, d2, d3, d4] => { results := [.lit (.bool false)], args := [d1, d2, d3, d4] }
  | _ => none }
def FnExactChainEncipherWrongFalsely : Prop := fnExactChainEncipherRow.holds Try.pinned (OpenSpec.ofChange fnExactChainEncipherWrong)

/-- 'laws.FnExactChainDecipher': WHATEVER THE INPUT: true; the input reads as it did. -/
def fnExactChainDecipherSpec : ChangeSpec := { name := "fnExactChainDecipher", fn := fun _ => fun
  | [d1, d2, d3, d4] => { results := [.lit (.bool true)], args := [d1, d2, d3, d4] }
  | _ => none }
def fnExactChainDecipherRow : OpenClaim := { program := "ytpapocmoielldaa", sum := "091cfc4010cf47d57374b48e9904e9ff06d948533ae828b4e928498ec247a363", func := "loop.example/g01182/laws.FnExactChainDecipher", spec := "fnExactChainDecipher", inPlace := ["internal/bytealg.IndexByte"], apart := false }
def FnExactChainDecipherSaid : Prop := fnExactChainDecipherRow.holds Try.pinned (OpenSpec.ofChange fnExactChainDecipherSpec)

/-- ITS FALSE NEIGHBOUR: 'it returns false'. Refute it at one input. -/
def fnExactChainDecipherWrong : ChangeSpec := { name := "fnExactChainDecipher", fn := fun _ => fun
  | [d1, d2, d3, d4] => { results := [.lit (.bool false)], args := [d1, d2, d3, d4] }
  | _ => none }
def FnExactChainDecipherWrongFalsely : Prop := fnExactChainDecipherRow.holds Try.pinned (OpenSpec.ofChange fnExactChainDecipherWrong)

/-- 'laws.FnExactStealEncipher': WHATEVER THE INPUT: true; the input reads as it did. -/
def fnExactStealEncipherSpec : ChangeSpec := { name := "fnExactStealEncipher", fn := fun _ => fun
  | [d1, d2, d3, d4] => { results := [.lit (.bool true)], args := [d1, d2, d3, d4] }
  | _ => none }
def fnExactStealEncipherRow : OpenClaim := { program := "ytpapocmoielldaa", sum := "091cfc4010cf47d57374b48e9904e9ff06d948533ae828b4e928498ec247a363", func := "loop.example/g01182/laws.FnExactStealEncipher", spec := "fnExactStealEncipher", inPlace := ["internal/bytealg.IndexByte"], apart := false }
def FnExactStealEncipherSaid : Prop := fnExactStealEncipherRow.holds Try.pinned (OpenSpec.ofChange fnExactStealEncipherSpec)

/-- ITS FALSE NEIGHBOUR: 'it returns false'. Refute it at one input. -/
def fnExactStealEncipherWrong : ChangeSpec := { name := "fnExactStealEncipher", fn := fun _ => fun
  | [d1, d2, d3, d4] => { results := [.lit (.bool false)], args := [d1, d2, d3, d4] }
  | _ => none }
def FnExactStealEncipherWrongFalsely : Prop := fnExactStealEncipherRow.holds Try.pinned (OpenSpec.ofChange fnExactStealEncipherWrong)

/-- 'laws.FnExactStealDecipher': WHATEVER THE INPUT: true; the input reads as it did. -/
def fnExactStealDecipherSpec : ChangeSpec := { name := "fnExactStealDecipher", fn := fun _ => fun
  | [d1, d2, d3, d4] => { results := [.lit (.bool true)], args := [d1, d2, d3, d4] }
  | _ => none }
def fnExactStealDecipherRow : OpenClaim := { program := "ytpapocmoielldaa", sum := "091cfc4010cf47d57374b48e9904e9ff06d948533ae828b4e928498ec247a363", func := "loop.example/g01182/laws.FnExactStealDecipher", spec := "fnExactStealDecipher", inPlace := ["internal/bytealg.IndexByte"], apart := false }
def FnExactStealDecipherSaid : Prop := fnExactStealDecipherRow.holds Try.pinned (OpenSpec.ofChange fnExactStealDecipherSpec)

/-- ITS FALSE NEIGHBOUR: 'it returns false'. Refute it at one input. -/
def fnExactStealDecipherWrong : ChangeSpec := { name := "fnExactStealDecipher", fn := fun _ => fun
  | [d1, d2, d3, d4] => { results := [.lit (.bool false)], args := [d1, d2, d3, d4] }
  | _ => none }
def FnExactStealDecipherWrongFalsely : Prop := fnExactStealDecipherRow.holds Try.pinned (OpenSpec.ofChange fnExactStealDecipherWrong)

/-- 'laws.FnExactFaultPlaces': WHATEVER THE INPUT: true; the input reads as it did. -/
def fnExactFaultPlacesSpec : ChangeSpec := { name := "fnExactFaultPlaces", fn := fun _ => fun
  | [d1, d2, d3, d4, d5] => { results := [.lit (.bool true)], args := [d1, d2, d3, d4, d5] }
  | _ => none }
def fnExactFaultPlacesRow : OpenClaim := { program := "ytpapocmoielldaa", sum := "091cfc4010cf47d57374b48e9904e9ff06d948533ae828b4e928498ec247a363", func := "loop.example/g01182/laws.FnExactFaultPlaces", spec := "fnExactFaultPlaces", inPlace := ["internal/bytealg.IndexByte"], apart := false }
def FnExactFaultPlacesSaid : Prop := fnExactFaultPlacesRow.holds Try.pinned (OpenSpec.ofChange fnExactFaultPlacesSpec)

/-- ITS FALSE NEIGHBOUR: 'it returns false'. Refute it at one input. -/
def fnExactFaultPlacesWrong : ChangeSpec := { name := "fnExactFaultPlaces", fn := fun _ => fun
  | [d1, d2, d3, d4, d5] => { results := [.lit (.bool false)], args := [d1, d2, d3, d4, d5] }
  | _ => none }
def FnExactFaultPlacesWrongFalsely : Prop := fnExactFaultPlacesRow.holds Try.pinned (OpenSpec.ofChange fnExactFaultPlacesWrong)

/-- 'laws.FnExactWideEncipher': WHATEVER THE INPUT: true; the input reads as it did. -/
def fnExactWideEncipherSpec : ChangeSpec := { name := "fnExactWideEncipher", fn := fun _ => fun
  | [d1, d2, d3] => { results := [.lit (.bool true)], args := [d1, d2, d3] }
  | _ => none }
def fnExactWideEncipherRow : OpenClaim := { program := "ytpapocmoielldaa", sum := "091cfc4010cf47d57374b48e9904e9ff06d948533ae828b4e928498ec247a363", func := "loop.example/g01182/laws.FnExactWideEncipher", spec := "fnExactWideEncipher", inPlace := ["internal/bytealg.IndexByte"], apart := false }
def FnExactWideEncipherSaid : Prop := fnExactWideEncipherRow.holds Try.pinned (OpenSpec.ofChange fnExactWideEncipherSpec)

/-- ITS FALSE NEIGHBOUR: 'it returns false'. Refute it at one input. -/
def fnExactWideEncipherWrong : ChangeSpec := { name := "fnExactWideEncipher", fn := fun _ => fun
  | [d1, d2, d3] => { results := [.lit (.bool false)], args := [d1, d2, d3] }
  | _ => none }
def FnExactWideEncipherWrongFalsely : Prop := fnExactWideEncipherRow.holds Try.pinned (OpenSpec.ofChange fnExactWideEncipherWrong)

/-- 'laws.FnExactWideDecipher': WHATEVER THE INPUT: true; the input reads as it did. -/
def fnExactWideDecipherSpec : ChangeSpec := { name := "fnExactWideDecipher", fn := fun _ => fun
  | [d1, d2, d3] => { results := [.lit (.bool true)], args := [d1, d2, d3] }
  | _ => none }
def fnExactWideDecipherRow : OpenClaim := { program := "ytpapocmoielldaa", sum := "091cfc4010cf47d57374b48e9904e9ff06d948533ae828b4e928498ec247a363", func := "loop.example/g01182/laws.FnExactWideDecipher", spec := "fnExactWideDecipher", inPlace := ["internal/bytealg.IndexByte"], apart := false }
def FnExactWideDecipherSaid : Prop := fnExactWideDecipherRow.holds Try.pinned (OpenSpec.ofChange fnExactWideDecipherSpec)

/-- ITS FALSE NEIGHBOUR: 'it returns false'. Refute it at one input. -/
def fnExactWideDecipherWrong : ChangeSpec := { name := "fnExactWideDecipher", fn := fun _ => fun
  | [d1, d2, d3] => { results := [.lit (.bool false)], args := [d1, d2, d3] }
  | _ => none }
def FnExactWideDecipherWrongFalsely : Prop := fnExactWideDecipherRow.holds Try.pinned (OpenSpec.ofChange fnExactWideDecipherWrong)

/- THE SECOND FORM. 'bulk': how many values and letters a reading holds, each counted each time it is reached (what is shared counts as often as it is met; a slice's spare places count too). A statement '..UptoSaid' is the law's where the arguments, and the package variables that the reading takes, are together of bulk at most 1048576: NARROWER than '..Said'. Prove '..Said' where nothing that the law and all that it calls make is longer than what came in: it says more and counts as full. Else prove '..UptoSaid'. A law counts once. -/
mutual
def uptoBulk {H : Type} : DataW H → Nat
  | .lit (.string bytes) => bytes.length + 1
  | .lit _ => 1
  | .nil => 1
  | .ptr d => uptoBulk d + 1
  | .slice elems spare => uptoBulkAll elems + uptoBulkAll spare + 1
  | .agg parts => uptoBulkAll parts + 1
  | .iface _ d => uptoBulk d + 1
  | .map entries => uptoBulkEntries entries + 1
  | .held _ => 1
def uptoBulkAll {H : Type} : List (DataW H) → Nat
  | [] => 0
  | d :: r => uptoBulk d + uptoBulkAll r
def uptoBulkEntries {H : Type} : List (Lit × DataW H) → Nat
  | [] => 0
  | x :: r => uptoBulkEntry x + uptoBulkEntries r
def uptoBulkEntry {H : Type} : Lit × DataW H → Nat
  | (.string bytes, d) => bytes.length + uptoBulk d + 1
  | (_, d) => uptoBulk d + 1
 end
def uptoSmall : (H : Type) → List (DataW H) → Bool := fun _ ds => decide (uptoBulkAll ds ≤ 1048576)
def OpenSpec.upto (s : _root_.Go.ChangeSpec) : _root_.Go.OpenSpec := { _root_.Go.OpenSpec.ofChange s with cond := some uptoSmall }

/-- 'laws.FnExactFeedbackEncipher', WHERE WHAT IT READS IS OF BULK AT MOST 1048576: true; the input reads as it did. -/
def fnExactFeedbackEncipherUptoRow : OpenClaim := { program := "ytpapocmoielldaa", sum := "091cfc4010cf47d57374b48e9904e9ff06d948533ae828b4e928498ec247a363", func := "loop.example/g01182/laws.FnExactFeedbackEncipher", spec := "fnExactFeedbackEncipher", inPlace := ["internal/bytealg.IndexByte"], apart := false, narrowed := true }
def FnExactFeedbackEncipherUptoSaid : Prop := fnExactFeedbackEncipherUptoRow.holds Try.pinned (OpenSpec.upto fnExactFeedbackEncipherSpec)

/-- 'laws.FnExactFeedbackDecipher', WHERE WHAT IT READS IS OF BULK AT MOST 1048576: true; the input reads as it did. -/
def fnExactFeedbackDecipherUptoRow : OpenClaim := { program := "ytpapocmoielldaa", sum := "091cfc4010cf47d57374b48e9904e9ff06d948533ae828b4e928498ec247a363", func := "loop.example/g01182/laws.FnExactFeedbackDecipher", spec := "fnExactFeedbackDecipher", inPlace := ["internal/bytealg.IndexByte"], apart := false, narrowed := true }
def FnExactFeedbackDecipherUptoSaid : Prop := fnExactFeedbackDecipherUptoRow.holds Try.pinned (OpenSpec.upto fnExactFeedbackDecipherSpec)

/-- 'laws.FnExactCountData', WHERE WHAT IT READS IS OF BULK AT MOST 1048576: true; the input reads as it did. -/
def fnExactCountDataUptoRow : OpenClaim := { program := "ytpapocmoielldaa", sum := "091cfc4010cf47d57374b48e9904e9ff06d948533ae828b4e928498ec247a363", func := "loop.example/g01182/laws.FnExactCountData", spec := "fnExactCountData", inPlace := ["internal/bytealg.IndexByte"], apart := false, narrowed := true }
def FnExactCountDataUptoSaid : Prop := fnExactCountDataUptoRow.holds Try.pinned (OpenSpec.upto fnExactCountDataSpec)

/-- 'laws.FnExactChainEncipher', WHERE WHAT IT READS IS OF BULK AT MOST 1048576: true; the input reads as it did. -/
def fnExactChainEncipherUptoRow : OpenClaim := { program := "ytpapocmoielldaa", sum := "091cfc4010cf47d57374b48e9904e9ff06d948533ae828b4e928498ec247a363", func := "loop.example/g01182/laws.FnExactChainEncipher", spec := "fnExactChainEncipher", inPlace := ["internal/bytealg.IndexByte"], apart := false, narrowed := true }
def FnExactChainEncipherUptoSaid : Prop := fnExactChainEncipherUptoRow.holds Try.pinned (OpenSpec.upto fnExactChainEncipherSpec)

/-- 'laws.FnExactChainDecipher', WHERE WHAT IT READS IS OF BULK AT MOST 1048576: true; the input reads as it did. -/
def fnExactChainDecipherUptoRow : OpenClaim := { program := "ytpapocmoielldaa", sum := "091cfc4010cf47d57374b48e9904e9ff06d948533ae828b4e928498ec247a363", func := "loop.example/g01182/laws.FnExactChainDecipher", spec := "fnExactChainDecipher", inPlace := ["internal/bytealg.IndexByte"], apart := false, narrowed := true }
def FnExactChainDecipherUptoSaid : Prop := fnExactChainDecipherUptoRow.holds Try.pinned (OpenSpec.upto fnExactChainDecipherSpec)

/-- 'laws.FnExactStealEncipher', WHERE WHAT IT READS IS OF BULK AT MOST 1048576: true; the input reads as it did. -/
def fnExactStealEncipherUptoRow : OpenClaim := { program := "ytpapocmoielldaa", sum := "091cfc4010cf47d57374b48e9904e9ff06d948533ae828b4e928498ec247a363", func := "loop.example/g01182/laws.FnExactStealEncipher", spec := "fnExactStealEncipher", inPlace := ["internal/bytealg.IndexByte"], apart := false, narrowed := true }
def FnExactStealEncipherUptoSaid : Prop := fnExactStealEncipherUptoRow.holds Try.pinned (OpenSpec.upto fnExactStealEncipherSpec)

/-- 'laws.FnExactStealDecipher', WHERE WHAT IT READS IS OF BULK AT MOST 1048576: true; the input reads as it did. -/
def fnExactStealDecipherUptoRow : OpenClaim := { program := "ytpapocmoielldaa", sum := "091cfc4010cf47d57374b48e9904e9ff06d948533ae828b4e928498ec247a363", func := "loop.example/g01182/laws.FnExactStealDecipher", spec := "fnExactStealDecipher", inPlace := ["internal/bytealg.IndexByte"], apart := false, narrowed := true }
def FnExactStealDecipherUptoSaid : Prop := fnExactStealDecipherUptoRow.holds Try.pinned (OpenSpec.upto fnExactStealDecipherSpec)

/-- 'laws.FnExactFaultPlaces', WHERE WHAT IT READS IS OF BULK AT MOST 1048576: true; the input reads as it did. -/
def fnExactFaultPlacesUptoRow : OpenClaim := { program := "ytpapocmoielldaa", sum := "091cfc4010cf47d57374b48e9904e9ff06d948533ae828b4e928498ec247a363", func := "loop.example/g01182/laws.FnExactFaultPlaces", spec := "fnExactFaultPlaces", inPlace := ["internal/bytealg.IndexByte"], apart := false, narrowed := true }
def FnExactFaultPlacesUptoSaid : Prop := fnExactFaultPlacesUptoRow.holds Try.pinned (OpenSpec.upto fnExactFaultPlacesSpec)

/-- 'laws.FnExactWideEncipher', WHERE WHAT IT READS IS OF BULK AT MOST 1048576: true; the input reads as it did. -/
def fnExactWideEncipherUptoRow : OpenClaim := { program := "ytpapocmoielldaa", sum := "091cfc4010cf47d57374b48e9904e9ff06d948533ae828b4e928498ec247a363", func := "loop.example/g01182/laws.FnExactWideEncipher", spec := "fnExactWideEncipher", inPlace := ["internal/bytealg.IndexByte"], apart := false, narrowed := true }
def FnExactWideEncipherUptoSaid : Prop := fnExactWideEncipherUptoRow.holds Try.pinned (OpenSpec.upto fnExactWideEncipherSpec)

/-- 'laws.FnExactWideDecipher', WHERE WHAT IT READS IS OF BULK AT MOST 1048576: true; the input reads as it did. -/
def fnExactWideDecipherUptoRow : OpenClaim := { program := "ytpapocmoielldaa", sum := "091cfc4010cf47d57374b48e9904e9ff06d948533ae828b4e928498ec247a363", func := "loop.example/g01182/laws.FnExactWideDecipher", spec := "fnExactWideDecipher", inPlace := ["internal/bytealg.IndexByte"], apart := false, narrowed := true }
def FnExactWideDecipherUptoSaid : Prop := fnExactWideDecipherUptoRow.holds Try.pinned (OpenSpec.upto fnExactWideDecipherSpec)

end Rows
end Go.Proofs.Ytpapocmoielldaa
