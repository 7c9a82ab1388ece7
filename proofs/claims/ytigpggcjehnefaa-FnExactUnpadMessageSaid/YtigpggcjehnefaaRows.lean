/-
  No cell of these rows narrows 'for every input' (looked for: loops, veiled, ifaces, maps, wideKeys, modest, calm, conditions, laid).
  DERIVED. THE GIVEN ROWS OF THIS SEAT. 9 by the template 'for every input the law returns true; each argument reads behind the call as it read before'; 0 by the template 'total and deterministic' (their statements: YtigpggcjehnefaaTotals.lean).
  GIVEN WITH THE SEED: the statements are not yours to turn. If you find one false, say at which input.
  Laid BY PROGRAM, IN A SANDBOX (cutbox-rows.mjs): the forced cells as the released guide's own fill.sh prints them over the translation 05e81e2b572036b0… (all of the seat's roots in one cut). By AI agents, Wed Nov 11 2026. No macro, syntax, notation, axiom, sorry.
-/
import Derived.Test.YtigpggcjehnefaaChecked
import GoSem.Claim
import GoSem.ClaimJoined
import GoSem.ClaimMapViews
import Derived.JoinedTies
import Derived.KernelRfl
namespace Go.Proofs.Ytigpggcjehnefaa
/- THE CELL 'sum', in the pinned program and in every row, IS THE sha256 OF THE DUMP (.gsa) THAT YtigpggcjehnefaaProg.lean LOADS. Nothing in Lean hashes anything: it is a label: what it is worth is what the hold of that sum in a sandbox is worth. -/
noncomputable def Try.pinned : Pinned := { name := "ytigpggcjehnefaa", sum := "05e81e2b572036b0ecf0402e12c6cd6f1fa49d4fb2d8b3feb47fda75c9fe004d", checked := Try.checked }
namespace Rows
def none {H : Type} : Left H := { results := [], args := [] }

/-- 'laws.FnExactStartOfDigest': WHATEVER THE INPUT: true; the input reads as it did. -/
def fnExactStartOfDigestSpec : ChangeSpec := { name := "fnExactStartOfDigest", fn := fun _ => fun
  | [] => { results := [.lit (.bool true)], args := [] }
  | _ => none }
def fnExactStartOfDigestRow : OpenClaim := { program := "ytigpggcjehnefaa", sum := "05e81e2b572036b0ecf0402e12c6cd6f1fa49d4fb2d8b3feb47fda75c9fe004d", func := "loop.example/g01182/laws.FnExactStartOfDigest", spec := "fnExactStartOfDigest", apart := false }
def FnExactStartOfDigestSaid : Prop := fnExactStartOfDigestRow.holds Try.pinned (OpenSpec.ofChange fnExactStartOfDigestSpec)

/-- ITS FALSE NEIGHBOUR: 'it returns false'. Refute it at one input. -/
def fnExactStartOfDigestWrong : ChangeSpec := { name := "fnExactStartOfDigest", fn := fun _ => fun
  | [] => { results := [.lit (.bool false)], args := [] }
  | _ => none }
def FnExactStartOfDigestWrongFalsely : Prop := fnExactStartOfDigestRow.holds Try.pinned (OpenSpec.ofChange fnExactStartOfDigestWrong)

/-- 'laws.FnExactAgreeingBits': WHATEVER THE INPUT: true; the input reads as it did. -/
def fnExactAgreeingBitsSpec : ChangeSpec := { name := "fnExactAgreeingBits", fn := fun _ => fun
  | [d1, d2] => { results := [.lit (.bool true)], args := [d1, d2] }
  | _ => none }
def fnExactAgreeingBitsRow : OpenClaim := { program := "ytigpggcjehnefaa", sum := "05e81e2b572036b0ecf0402e12c6cd6f1fa49d4fb2d8b3feb47fda75c9fe004d", func := "loop.example/g01182/laws.FnExactAgreeingBits", spec := "fnExactAgreeingBits", apart := false }
def FnExactAgreeingBitsSaid : Prop := fnExactAgreeingBitsRow.holds Try.pinned (OpenSpec.ofChange fnExactAgreeingBitsSpec)

/-- ITS FALSE NEIGHBOUR: 'it returns false'. Refute it at one input. -/
def fnExactAgreeingBitsWrong : ChangeSpec := { name := "fnExactAgreeingBits", fn := fun _ => fun
  | [d1, d2] => { results := [.lit (.bool false)], args := [d1, d2] }
  | _ => none }
def FnExactAgreeingBitsWrongFalsely : Prop := fnExactAgreeingBitsRow.holds Try.pinned (OpenSpec.ofChange fnExactAgreeingBitsWrong)

/-- 'laws.FnExactDigestText': WHATEVER THE INPUT: true; the input reads as it did. -/
def fnExactDigestTextSpec : ChangeSpec := { name := "fnExactDigestText", fn := fun _ => fun
  | [d] => { results := [.lit (.bool true)], args := [d] }
  | _ => none }
def fnExactDigestTextRow : OpenClaim := { program := "ytigpggcjehnefaa", sum := "05e81e2b572036b0ecf0402e12c6cd6f1fa49d4fb2d8b3feb47fda75c9fe004d", func := "loop.example/g01182/laws.FnExactDigestText", spec := "fnExactDigestText", apart := false }
def FnExactDigestTextSaid : Prop := fnExactDigestTextRow.holds Try.pinned (OpenSpec.ofChange fnExactDigestTextSpec)

/-- ITS FALSE NEIGHBOUR: 'it returns false'. Refute it at one input. -/
def fnExactDigestTextWrong : ChangeSpec := { name := "fnExactDigestText", fn := fun _ => fun
  | [d] => { results := [.lit (.bool false)], args := [d] }
  | _ => none }
def FnExactDigestTextWrongFalsely : Prop := fnExactDigestTextRow.holds Try.pinned (OpenSpec.ofChange fnExactDigestTextWrong)

/-- 'laws.FnExactLeadingZeros': WHATEVER THE INPUT: true; the input reads as it did. -/
def fnExactLeadingZerosSpec : ChangeSpec := { name := "fnExactLeadingZeros", fn := fun _ => fun
  | [d] => { results := [.lit (.bool true)], args := [d] }
  | _ => none }
def fnExactLeadingZerosRow : OpenClaim := { program := "ytigpggcjehnefaa", sum := "05e81e2b572036b0ecf0402e12c6cd6f1fa49d4fb2d8b3feb47fda75c9fe004d", func := "loop.example/g01182/laws.FnExactLeadingZeros", spec := "fnExactLeadingZeros", apart := false }
def FnExactLeadingZerosSaid : Prop := fnExactLeadingZerosRow.holds Try.pinned (OpenSpec.ofChange fnExactLeadingZerosSpec)

/-- ITS FALSE NEIGHBOUR: 'it returns false'. Refute it at one input. -/
def fnExactLeadingZerosWrong : ChangeSpec := { name := "fnExactLeadingZeros", fn := fun _ => fun
  | [d] => { results := [.lit (.bool false)], args := [d] }
  | _ => none }
def FnExactLeadingZerosWrongFalsely : Prop := fnExactLeadingZerosRow.holds Try.pinned (OpenSpec.ofChange fnExactLeadingZerosWrong)

/-- 'laws.FnExactPadBlocks': WHATEVER THE INPUT: true; the input reads as it did. -/
def fnExactPadBlocksSpec : ChangeSpec := { name := "fnExactPadBlocks", fn := fun _ => fun
  | [d] => { results := [.lit (.bool true)], args := [d] }
  | _ => none }
def fnExactPadBlocksRow : OpenClaim := { program := "ytigpggcjehnefaa", sum := "05e81e2b572036b0ecf0402e12c6cd6f1fa49d4fb2d8b3feb47fda75c9fe004d", func := "loop.example/g01182/laws.FnExactPadBlocks", spec := "fnExactPadBlocks", apart := false }
def FnExactPadBlocksSaid : Prop := fnExactPadBlocksRow.holds Try.pinned (OpenSpec.ofChange fnExactPadBlocksSpec)

/-- ITS FALSE NEIGHBOUR: 'it returns false'. Refute it at one input. -/
def fnExactPadBlocksWrong : ChangeSpec := { name := "fnExactPadBlocks", fn := fun _ => fun
  | [d] => { results := [.lit (.bool false)], args := [d] }
  | _ => none }
def FnExactPadBlocksWrongFalsely : Prop := fnExactPadBlocksRow.holds Try.pinned (OpenSpec.ofChange fnExactPadBlocksWrong)

/-- 'laws.FnExactParseDigest': WHATEVER THE INPUT: true; the input reads as it did. -/
def fnExactParseDigestSpec : ChangeSpec := { name := "fnExactParseDigest", fn := fun _ => fun
  | [d] => { results := [.lit (.bool true)], args := [d] }
  | _ => none }
def fnExactParseDigestRow : OpenClaim := { program := "ytigpggcjehnefaa", sum := "05e81e2b572036b0ecf0402e12c6cd6f1fa49d4fb2d8b3feb47fda75c9fe004d", func := "loop.example/g01182/laws.FnExactParseDigest", spec := "fnExactParseDigest", apart := false }
def FnExactParseDigestSaid : Prop := fnExactParseDigestRow.holds Try.pinned (OpenSpec.ofChange fnExactParseDigestSpec)

/-- ITS FALSE NEIGHBOUR: 'it returns false'. Refute it at one input. -/
def fnExactParseDigestWrong : ChangeSpec := { name := "fnExactParseDigest", fn := fun _ => fun
  | [d] => { results := [.lit (.bool false)], args := [d] }
  | _ => none }
def FnExactParseDigestWrongFalsely : Prop := fnExactParseDigestRow.holds Try.pinned (OpenSpec.ofChange fnExactParseDigestWrong)

/-- 'laws.FnExactPadMessage': WHATEVER THE INPUT: true; the input reads as it did. -/
def fnExactPadMessageSpec : ChangeSpec := { name := "fnExactPadMessage", fn := fun _ => fun
  | [d] => { results := [.lit (.bool true)], args := [d] }
  | _ => none }
def fnExactPadMessageRow : OpenClaim := { program := "ytigpggcjehnefaa", sum := "05e81e2b572036b0ecf0402e12c6cd6f1fa49d4fb2d8b3feb47fda75c9fe004d", func := "loop.example/g01182/laws.FnExactPadMessage", spec := "fnExactPadMessage", apart := false }
def FnExactPadMessageSaid : Prop := fnExactPadMessageRow.holds Try.pinned (OpenSpec.ofChange fnExactPadMessageSpec)

/-- ITS FALSE NEIGHBOUR: 'it returns false'. Refute it at one input. -/
def fnExactPadMessageWrong : ChangeSpec := { name := "fnExactPadMessage", fn := fun _ => fun
  | [d] => { results := [.lit (.bool false)], args := [d] }
  | _ => none }
def FnExactPadMessageWrongFalsely : Prop := fnExactPadMessageRow.holds Try.pinned (OpenSpec.ofChange fnExactPadMessageWrong)

/-- 'laws.FnExactUnpadBlocks': WHATEVER THE INPUT: true; the input reads as it did. -/
def fnExactUnpadBlocksSpec : ChangeSpec := { name := "fnExactUnpadBlocks", fn := fun _ => fun
  | [d] => { results := [.lit (.bool true)], args := [d] }
  | _ => none }
def fnExactUnpadBlocksRow : OpenClaim := { program := "ytigpggcjehnefaa", sum := "05e81e2b572036b0ecf0402e12c6cd6f1fa49d4fb2d8b3feb47fda75c9fe004d", func := "loop.example/g01182/laws.FnExactUnpadBlocks", spec := "fnExactUnpadBlocks", apart := false }
def FnExactUnpadBlocksSaid : Prop := fnExactUnpadBlocksRow.holds Try.pinned (OpenSpec.ofChange fnExactUnpadBlocksSpec)

/-- ITS FALSE NEIGHBOUR: 'it returns false'. Refute it at one input. -/
def fnExactUnpadBlocksWrong : ChangeSpec := { name := "fnExactUnpadBlocks", fn := fun _ => fun
  | [d] => { results := [.lit (.bool false)], args := [d] }
  | _ => none }
def FnExactUnpadBlocksWrongFalsely : Prop := fnExactUnpadBlocksRow.holds Try.pinned (OpenSpec.ofChange fnExactUnpadBlocksWrong)

/-- 'laws.FnExactUnpadMessage': WHATEVER THE INPUT: true; the input reads as it did. -/
def fnExactUnpadMessageSpec : ChangeSpec := { name := "fnExactUnpadMessage", fn := fun _ => fun
  | [d] => { results := [.lit (.bool true)], args := [d] }
  | _ => none }
def fnExactUnpadMessageRow : OpenClaim := { program := "ytigpggcjehnefaa", sum := "05e81e2b572036b0ecf0402e12c6cd6f1fa49d4fb2d8b3feb47fda75c9fe004d", func := "loop.example/g01182/laws.FnExactUnpadMessage", spec := "fnExactUnpadMessage", apart := false }
def FnExactUnpadMessageSaid : Prop := fnExactUnpadMessageRow.holds Try.pinned (OpenSpec.ofChange fnExactUnpadMessageSpec)

/-- ITS FALSE NEIGHBOUR: 'it returns false'. Refute it at one input. -/
def fnExactUnpadMessageWrong : ChangeSpec := { name := "fnExactUnpadMessage", fn := fun _ => fun
  | [d] => { results := [.lit (.bool false)], args := [d] }
  | _ => none }
def FnExactUnpadMessageWrongFalsely : Prop := fnExactUnpadMessageRow.holds Try.pinned (OpenSpec.ofChange fnExactUnpadMessageWrong)

/- THE SECOND FORM. 'bulk': how many values and letters a reading holds, each counted each time it is reached (what is shared counts as often as it is met; a slice's spare places count too). A statement '..UptoSaid' is the law's where the arguments, and the package variables that the reading takes, are together of bulk at most 1048576: NARROWER than '..Said'. Prove '..Said' where nothing that the law and all that it calls make is longer than what came in: it says more and counts as full. Else prove '..UptoSaid'. A law counts once. -/
mutual
def uptoBulk {H : Type} : DataW H → Nat
  | .lit (.string bytes) => bytes.length + 1
  | .lit _ => 1
  | .nil => 1
  | .ptr d => uptoBulk d + 1
  | .slice elems spare => uptoBulkAll elems + uptoBulkAll spare + 1
  | .agg parts => uptoBulkAll parts + 1
  | .iface _ d => uptoBulk d + 1
  | .map entries => uptoBulkEntries entries + 1
  | .held _ => 1
def uptoBulkAll {H : Type} : List (DataW H) → Nat
  | [] => 0
  | d :: r => uptoBulk d + uptoBulkAll r
def uptoBulkEntries {H : Type} : List (Lit × DataW H) → Nat
  | [] => 0
  | x :: r => uptoBulkEntry x + uptoBulkEntries r
def uptoBulkEntry {H : Type} : Lit × DataW H → Nat
  | (.string bytes, d) => bytes.length + uptoBulk d + 1
  | (_, d) => uptoBulk d + 1
 end
def uptoSmall : (H : Type) → List (DataW H) → Bool := fun _ ds => decide (uptoBulkAll ds ≤ 1048576)
def OpenSpec.upto (s : _root_.Go.ChangeSpec) : _root_.Go.OpenSpec := { _root_.Go.OpenSpec.ofChange s with cond := some uptoSmall }

/-- 'laws.FnExactStartOfDigest', WHERE WHAT IT READS IS OF BULK AT MOST 1048576: true; the input reads as it did. -/
def fnExactStartOfDigestUptoRow : OpenClaim := { program := "ytigpggcjehnefaa", sum := "05e81e2b572036b0ecf0402e12c6cd6f1fa49d4fb2d8b3feb47fda75c9fe004d", func := "loop.example/g01182/laws.FnExactStartOfDigest", spec := "fnExactStartOfDigest", apart := false, narrowed := true }
def FnExactStartOfDigestUptoSaid : Prop := fnExactStartOfDigestUptoRow.holds Try.pinned (OpenSpec.upto fnExactStartOfDigestSpec)

/-- 'laws.FnExactAgreeingBits', WHERE WHAT IT READS IS OF BULK AT MOST 1048576: true; the input reads as it did. -/
def fnExactAgreeingBitsUptoRow : OpenClaim := { program := "ytigpggcjehnefaa", sum := "05e81e2b572036b0ecf0402e12c6cd6f1fa49d4fb2d8b3feb47fda75c9fe004d", func := "loop.example/g01182/laws.FnExactAgreeingBits", spec := "fnExactAgreeingBits", apart := false, narrowed := true }
def FnExactAgreeingBitsUptoSaid : Prop := fnExactAgreeingBitsUptoRow.holds Try.pinned (OpenSpec.upto fnExactAgreeingBitsSpec)

/-- 'laws.FnExactDigestText', WHERE WHAT IT READS IS OF BULK AT MOST 1048576: true; the input reads as it did. -/
def fnExactDigestTextUptoRow : OpenClaim := { program := "ytigpggcjehnefaa", sum := "05e81e2b572036b0ecf0402e12c6cd6f1fa49d4fb2d8b3feb47fda75c9fe004d", func := "loop.example/g01182/laws.FnExactDigestText", spec := "fnExactDigestText", apart := false, narrowed := true }
def FnExactDigestTextUptoSaid : Prop := fnExactDigestTextUptoRow.holds Try.pinned (OpenSpec.upto fnExactDigestTextSpec)

/-- 'laws.FnExactLeadingZeros', WHERE WHAT IT READS IS OF BULK AT MOST 1048576: true; the input reads as it did. -/
def fnExactLeadingZerosUptoRow : OpenClaim := { program := "ytigpggcjehnefaa", sum := "05e81e2b572036b0ecf0402e12c6cd6f1fa49d4fb2d8b3feb47fda75c9fe004d", func := "loop.example/g01182/laws.FnExactLeadingZeros", spec := "fnExactLeadingZeros", apart := false, narrowed := true }
def FnExactLeadingZerosUptoSaid : Prop := fnExactLeadingZerosUptoRow.holds Try.pinned (OpenSpec.upto fnExactLeadingZerosSpec)

/-- 'laws.FnExactPadBlocks', WHERE WHAT IT READS IS OF BULK AT MOST 1048576: true; the input reads as it did. -/
def fnExactPadBlocksUptoRow : OpenClaim := { program := "ytigpggcjehnefaa", sum := "05e81e2b572036b0ecf0402e12c6cd6f1fa49d4fb2d8b3feb47fda75c9fe004d", func := "loop.example/g01182/laws.FnExactPadBlocks", spec := "fnExactPadBlocks", apart := false, narrowed := true }
def FnExactPadBlocksUptoSaid : Prop := fnExactPadBlocksUptoRow.holds Try.pinned (OpenSpec.upto fnExactPadBlocksSpec)

/-- 'laws.FnExactParseDigest', WHERE WHAT IT READS IS OF BULK AT MOST 1048576: true; the input reads as it did. -/
def fnExactParseDigestUptoRow : OpenClaim := { program := "ytigpggcjehnefaa", sum := "05e81e2b572036b0ecf0402e12c6cd6f1fa49d4fb2d8b3feb47fda75c9fe004d", func := "loop.example/g01182/laws.FnExactParseDigest", spec := "fnExactParseDigest", apart := false, narrowed := true }
def FnExactParseDigestUptoSaid : Prop := fnExactParseDigestUptoRow.holds Try.pinned (OpenSpec.upto fnExactParseDigestSpec)

/-- 'laws.FnExactPadMessage', WHERE WHAT IT READS IS OF BULK AT MOST 1048576: true; the input reads as it did. -/
def fnExactPadMessageUptoRow : OpenClaim := { program := "ytigpggcjehnefaa", sum := "05e81e2b572036b0ecf0402e12c6cd6f1fa49d4fb2d8b3feb47fda75c9fe004d", func := "loop.example/g01182/laws.FnExactPadMessage", spec := "fnExactPadMessage", apart := false, narrowed := true }
def FnExactPadMessageUptoSaid : Prop := fnExactPadMessageUptoRow.holds Try.pinned (OpenSpec.upto fnExactPadMessageSpec)

/-- 'laws.FnExactUnpadBlocks', WHERE WHAT IT READS IS OF BULK AT MOST 1048576: true; the input reads as it did. -/
def fnExactUnpadBlocksUptoRow : OpenClaim := { program := "ytigpggcjehnefaa", sum := "05e81e2b572036b0ecf0402e12c6cd6f1fa49d4fb2d8b3feb47fda75c9fe004d", func := "loop.example/g01182/laws.FnExactUnpadBlocks", spec := "fnExactUnpadBlocks", apart := false, narrowed := true }
def FnExactUnpadBlocksUptoSaid : Prop := fnExactUnpadBlocksUptoRow.holds Try.pinned (OpenSpec.upto fnExactUnpadBlocksSpec)

/-- 'laws.FnExactUnpadMessage', WHERE WHAT IT READS IS OF BULK AT MOST 1048576: true; the input reads as it did. -/
def fnExactUnpadMessageUptoRow : OpenClaim := { program := "ytigpggcjehnefaa", sum := "05e81e2b572036b0ecf0402e12c6cd6f1fa49d4fb2d8b3feb47fda75c9fe004d", func := "loop.example/g01182/laws.FnExactUnpadMessage", spec := "fnExactUnpadMessage", apart := false, narrowed := true }
def FnExactUnpadMessageUptoSaid : Prop := fnExactUnpadMessageUptoRow.holds Try.pinned (OpenSpec.upto fnExactUnpadMessageSpec)

end Rows
end Go.Proofs.Ytigpggcjehnefaa
