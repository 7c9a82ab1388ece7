/-
  No cell of these rows narrows 'for every input' (looked for: loops, veiled, ifaces, maps, wideKeys, modest, calm, conditions, laid).
  DERIVED. THE GIVEN ROWS OF THIS SEAT. 8 by the template 'for every input the law returns true; each argument reads behind the call as it read before'; 0 by the template 'total and deterministic' (their statements: YtcfhdogmkbfnhaaTotals.lean).
  GIVEN WITH THE SEED: the statements are not yours to turn. If you find one false, say at which input.
  Laid BY PROGRAM, IN A SANDBOX (cutbox-rows.mjs): the forced cells as the released guide's own fill.sh prints them over the translation f6a71c007b5708ee… (all of the seat's roots in one cut). By AI agents, Wed Nov 11 2026. No macro, syntax, notation, axiom, sorry.
-/
import Derived.Test.YtcfhdogmkbfnhaaChecked
import GoSem.Claim
import GoSem.ClaimJoined
import GoSem.ClaimMapViews
import Derived.JoinedTies
import Derived.KernelRfl
namespace Go.Proofs.Ytcfhdogmkbfnhaa
/- THE CELL 'sum', in the pinned program and in every row, IS THE sha256 OF THE DUMP (.gsa) THAT YtcfhdogmkbfnhaaProg.lean LOADS. Nothing in Lean hashes anything: it is a label: what it is worth is what the hold of that sum in a sandbox is worth. -/
noncomputable def Try.pinned : Pinned := { name := "ytcfhdogmkbfnhaa", sum := "f6a71c007b5708ee7309a9f40aae823916f3d4f65ec25a0b04a24ef59ed45d96", checked := Try.checked }
namespace Rows
def none {H : Type} : Left H := { results := [], args := [] }

/-- 'laws.FnExactChainOfTags': WHATEVER THE INPUT: true; the input reads as it did. -/
def fnExactChainOfTagsSpec : ChangeSpec := { name := "fnExactChainOfTags", fn := fun _ => fun
  | [d1, d2, d3] => { results := [.lit (.bool true)], args := [d1, d2, d3] }
  | _ => none }
def fnExactChainOfTagsRow : OpenClaim := { program := "ytcfhdogmkbfnhaa", sum := "f6a71c007b5708ee7309a9f40aae823916f3d4f65ec25a0b04a24ef59ed45d96", func := "loop.example/g01182/laws.FnExactChainOfTags", spec := "fnExactChainOfTags", inPlace := ["internal/bytealg.IndexByte"], unfollowed := true, recurses := true, apart := false }
def FnExactChainOfTagsSaid : Prop := fnExactChainOfTagsRow.holds Try.pinned (OpenSpec.ofChange fnExactChainOfTagsSpec)

/-- ITS FALSE NEIGHBOUR: 'it returns false'. Refute it at one input. -/
def fnExactChainOfTagsWrong : ChangeSpec := { name := "fnExactChainOfTags", fn := fun _ => fun
  | [d1, d2, d3] => { results := [.lit (.bool false)], args := [d1, d2, d3] }
  | _ => none }
def FnExactChainOfTagsWrongFalsely : Prop := fnExactChainOfTagsRow.holds Try.pinned (OpenSpec.ofChange fnExactChainOfTagsWrong)

/-- 'laws.FnExactFirstBroken': WHATEVER THE INPUT: true; the input reads as it did. -/
def fnExactFirstBrokenSpec : ChangeSpec := { name := "fnExactFirstBroken", fn := fun _ => fun
  | [d1, d2, d3, d4] => { results := [.lit (.bool true)], args := [d1, d2, d3, d4] }
  | _ => none }
def fnExactFirstBrokenRow : OpenClaim := { program := "ytcfhdogmkbfnhaa", sum := "f6a71c007b5708ee7309a9f40aae823916f3d4f65ec25a0b04a24ef59ed45d96", func := "loop.example/g01182/laws.FnExactFirstBroken", spec := "fnExactFirstBroken", inPlace := ["internal/bytealg.IndexByte"], unfollowed := true, recurses := true, apart := false }
def FnExactFirstBrokenSaid : Prop := fnExactFirstBrokenRow.holds Try.pinned (OpenSpec.ofChange fnExactFirstBrokenSpec)

/-- ITS FALSE NEIGHBOUR: 'it returns false'. Refute it at one input. -/
def fnExactFirstBrokenWrong : ChangeSpec := { name := "fnExactFirstBroken", fn := fun _ => fun
  | [d1, d2, d3, d4] => { results := [.lit (.bool false)], args := [d1, d2, d3, d4] }
  | _ => none }
def FnExactFirstBrokenWrongFalsely : Prop := fnExactFirstBrokenRow.holds Try.pinned (OpenSpec.ofChange fnExactFirstBrokenWrong)

/-- 'laws.FnExactIsBlobs': WHATEVER THE INPUT: true; the input reads as it did. -/
def fnExactIsBlobsSpec : ChangeSpec := { name := "fnExactIsBlobs", fn := fun _ => fun
  | [d] => { results := [.lit (.bool true)], args := [d] }
  | _ => none }
def fnExactIsBlobsRow : OpenClaim := { program := "ytcfhdogmkbfnhaa", sum := "f6a71c007b5708ee7309a9f40aae823916f3d4f65ec25a0b04a24ef59ed45d96", func := "loop.example/g01182/laws.FnExactIsBlobs", spec := "fnExactIsBlobs", inPlace := ["internal/bytealg.Compare"], apart := false }
def FnExactIsBlobsSaid : Prop := fnExactIsBlobsRow.holds Try.pinned (OpenSpec.ofChange fnExactIsBlobsSpec)

/-- ITS FALSE NEIGHBOUR: 'it returns false'. Refute it at one input. -/
def fnExactIsBlobsWrong : ChangeSpec := { name := "fnExactIsBlobs", fn := fun _ => fun
  | [d] => { results := [.lit (.bool false)], args := [d] }
  | _ => none }
def FnExactIsBlobsWrongFalsely : Prop := fnExactIsBlobsRow.holds Try.pinned (OpenSpec.ofChange fnExactIsBlobsWrong)

/-- 'laws.FnExactRootOfBlobs': WHATEVER THE INPUT: true; the input reads as it did. -/
def fnExactRootOfBlobsSpec : ChangeSpec := { name := "fnExactRootOfBlobs", fn := fun _ => fun
  | [d] => { results := [.lit (.bool true)], args := [d] }
  | _ => none }
def fnExactRootOfBlobsRow : OpenClaim := { program := "ytcfhdogmkbfnhaa", sum := "f6a71c007b5708ee7309a9f40aae823916f3d4f65ec25a0b04a24ef59ed45d96", func := "loop.example/g01182/laws.FnExactRootOfBlobs", spec := "fnExactRootOfBlobs", inPlace := ["internal/bytealg.Compare"], recurses := true, apart := false }
def FnExactRootOfBlobsSaid : Prop := fnExactRootOfBlobsRow.holds Try.pinned (OpenSpec.ofChange fnExactRootOfBlobsSpec)

/-- ITS FALSE NEIGHBOUR: 'it returns false'. Refute it at one input. -/
def fnExactRootOfBlobsWrong : ChangeSpec := { name := "fnExactRootOfBlobs", fn := fun _ => fun
  | [d] => { results := [.lit (.bool false)], args := [d] }
  | _ => none }
def FnExactRootOfBlobsWrongFalsely : Prop := fnExactRootOfBlobsRow.holds Try.pinned (OpenSpec.ofChange fnExactRootOfBlobsWrong)

/-- 'laws.FnExactRunBack': WHATEVER THE INPUT: true; the input reads as it did. -/
def fnExactRunBackSpec : ChangeSpec := { name := "fnExactRunBack", fn := fun _ => fun
  | [d1, d2, d3] => { results := [.lit (.bool true)], args := [d1, d2, d3] }
  | _ => none }
def fnExactRunBackRow : OpenClaim := { program := "ytcfhdogmkbfnhaa", sum := "f6a71c007b5708ee7309a9f40aae823916f3d4f65ec25a0b04a24ef59ed45d96", func := "loop.example/g01182/laws.FnExactRunBack", spec := "fnExactRunBack", unfollowed := true, recurses := true, apart := false }
def FnExactRunBackSaid : Prop := fnExactRunBackRow.holds Try.pinned (OpenSpec.ofChange fnExactRunBackSpec)

/-- ITS FALSE NEIGHBOUR: 'it returns false'. Refute it at one input. -/
def fnExactRunBackWrong : ChangeSpec := { name := "fnExactRunBack", fn := fun _ => fun
  | [d1, d2, d3] => { results := [.lit (.bool false)], args := [d1, d2, d3] }
  | _ => none }
def FnExactRunBackWrongFalsely : Prop := fnExactRunBackRow.holds Try.pinned (OpenSpec.ofChange fnExactRunBackWrong)

/-- 'laws.FnExactSlidPlaces': WHATEVER THE INPUT: true; the input reads as it did. -/
def fnExactSlidPlacesSpec : ChangeSpec := { name := "fnExactSlidPlaces", fn := fun _ => fun
  | [d1, d2, d3] => { results := [.lit (.bool true)], args := [d1, d2, d3] }
  | _ => none }
def fnExactSlidPlacesRow : OpenClaim := { program := "ytcfhdogmkbfnhaa", sum := "f6a71c007b5708ee7309a9f40aae823916f3d4f65ec25a0b04a24ef59ed45d96", func := "loop.example/g01182/laws.FnExactSlidPlaces", spec := "fnExactSlidPlaces", apart := false }
def FnExactSlidPlacesSaid : Prop := fnExactSlidPlacesRow.holds Try.pinned (OpenSpec.ofChange fnExactSlidPlacesSpec)

/-- ITS FALSE NEIGHBOUR: 'it returns false'. Refute it at one input. -/
def fnExactSlidPlacesWrong : ChangeSpec := { name := "fnExactSlidPlaces", fn := fun _ => fun
  | [d1, d2, d3] => { results := [.lit (.bool false)], args := [d1, d2, d3] }
  | _ => none }
def FnExactSlidPlacesWrongFalsely : Prop := fnExactSlidPlacesRow.holds Try.pinned (OpenSpec.ofChange fnExactSlidPlacesWrong)

/-- 'laws.FnExactIsAbsence': WHATEVER THE INPUT: true; the input reads as it did. -/
def fnExactIsAbsenceSpec : ChangeSpec := { name := "fnExactIsAbsence", fn := fun _ => fun
  | [d1, d2, d3, d4] => { results := [.lit (.bool true)], args := [d1, d2, d3, d4] }
  | _ => none }
def fnExactIsAbsenceRow : OpenClaim := { program := "ytcfhdogmkbfnhaa", sum := "f6a71c007b5708ee7309a9f40aae823916f3d4f65ec25a0b04a24ef59ed45d96", func := "loop.example/g01182/laws.FnExactIsAbsence", spec := "fnExactIsAbsence", inPlace := ["internal/bytealg.Compare"], recurses := true, apart := false }
def FnExactIsAbsenceSaid : Prop := fnExactIsAbsenceRow.holds Try.pinned (OpenSpec.ofChange fnExactIsAbsenceSpec)

/-- ITS FALSE NEIGHBOUR: 'it returns false'. Refute it at one input. -/
def fnExactIsAbsenceWrong : ChangeSpec := { name := "fnExactIsAbsence", fn := fun _ => fun
  | [d1, d2, d3, d4] => { results := [.lit (.bool false)], args := [d1, d2, d3, d4] }
  | _ => none }
def FnExactIsAbsenceWrongFalsely : Prop := fnExactIsAbsenceRow.holds Try.pinned (OpenSpec.ofChange fnExactIsAbsenceWrong)

/-- 'laws.FnExactAbsenceOf': WHATEVER THE INPUT: true; the input reads as it did. -/
def fnExactAbsenceOfSpec : ChangeSpec := { name := "fnExactAbsenceOf", fn := fun _ => fun
  | [d1, d2] => { results := [.lit (.bool true)], args := [d1, d2] }
  | _ => none }
def fnExactAbsenceOfRow : OpenClaim := { program := "ytcfhdogmkbfnhaa", sum := "f6a71c007b5708ee7309a9f40aae823916f3d4f65ec25a0b04a24ef59ed45d96", func := "loop.example/g01182/laws.FnExactAbsenceOf", spec := "fnExactAbsenceOf", inPlace := ["internal/bytealg.Compare"], unfollowed := true, recurses := true, apart := false }
def FnExactAbsenceOfSaid : Prop := fnExactAbsenceOfRow.holds Try.pinned (OpenSpec.ofChange fnExactAbsenceOfSpec)

/-- ITS FALSE NEIGHBOUR: 'it returns false'. Refute it at one input. -/
def fnExactAbsenceOfWrong : ChangeSpec := { name := "fnExactAbsenceOf", fn := fun _ => fun
  | [d1, d2] => { results := [.lit (.bool false)], args := [d1, d2] }
  | _ => none }
def FnExactAbsenceOfWrongFalsely : Prop := fnExactAbsenceOfRow.holds Try.pinned (OpenSpec.ofChange fnExactAbsenceOfWrong)

/- THE SECOND FORM. 'bulk': how many values and letters a reading holds, each counted each time it is reached (what is shared counts as often as it is met; a slice's spare places count too). A statement '..UptoSaid' is the law's where the arguments, and the package variables that the reading takes, are together of bulk at most 1048576: NARROWER than '..Said'. Prove '..Said' where nothing that the law and all that it calls make is longer than what came in: it says more and counts as full. Else prove '..UptoSaid'. A law counts once. -/
mutual
def uptoBulk {H : Type} : DataW H → Nat
  | .lit (.string bytes) => bytes.length + 1
  | .lit _ => 1
  | .nil => 1
  | .ptr d => uptoBulk d + 1
  | .slice elems spare => uptoBulkAll elems + uptoBulkAll spare + 1
  | .agg parts => uptoBulkAll parts + 1
  | .iface _ d => uptoBulk d + 1
  | .map entries => uptoBulkEntries entries + 1
  | .held _ => 1
def uptoBulkAll {H : Type} : List (DataW H) → Nat
  | [] => 0
  | d :: r => uptoBulk d + uptoBulkAll r
def uptoBulkEntries {H : Type} : List (Lit × DataW H) → Nat
  | [] => 0
  | x :: r => uptoBulkEntry x + uptoBulkEntries r
def uptoBulkEntry {H : Type} : Lit × DataW H → Nat
  | (.string bytes, d) => bytes.length + uptoBulk d + 1
  | (_, d) => uptoBulk d + 1
 end
def uptoSmall : (H : Type) → List (DataW H) → Bool := fun _ ds => decide (uptoBulkAll ds ≤ 1048576)
def OpenSpec.upto (s : _root_.Go.ChangeSpec) : _root_.Go.OpenSpec := { _root_.Go.OpenSpec.ofChange s with cond := some uptoSmall }

/-- 'laws.FnExactChainOfTags', WHERE WHAT IT READS IS OF BULK AT MOST 1048576: true; the input reads as it did. -/
def fnExactChainOfTagsUptoRow : OpenClaim := { program := "ytcfhdogmkbfnhaa", sum := "f6a71c007b5708ee7309a9f40aae823916f3d4f65ec25a0b04a24ef59ed45d96", func := "loop.example/g01182/laws.FnExactChainOfTags", spec := "fnExactChainOfTags", inPlace := ["internal/bytealg.IndexByte"], unfollowed := true, recurses := true, apart := false, narrowed := true }
def FnExactChainOfTagsUptoSaid : Prop := fnExactChainOfTagsUptoRow.holds Try.pinned (OpenSpec.upto fnExactChainOfTagsSpec)

/-- 'laws.FnExactFirstBroken', WHERE WHAT IT READS IS OF BULK AT MOST 1048576: true; the input reads as it did. -/
def fnExactFirstBrokenUptoRow : OpenClaim := { program := "ytcfhdogmkbfnhaa", sum := "f6a71c007b5708ee7309a9f40aae823916f3d4f65ec25a0b04a24ef59ed45d96", func := "loop.example/g01182/laws.FnExactFirstBroken", spec := "fnExactFirstBroken", inPlace := ["internal/bytealg.IndexByte"], unfollowed := true, recurses := true, apart := false, narrowed := true }
def FnExactFirstBrokenUptoSaid : Prop := fnExactFirstBrokenUptoRow.holds Try.pinned (OpenSpec.upto fnExactFirstBrokenSpec)

/-- 'laws.FnExactIsBlobs', WHERE WHAT IT READS IS OF BULK AT MOST 1048576: true; the input reads as it did. -/
def fnExactIsBlobsUptoRow : OpenClaim := { program := "ytcfhdogmkbfnhaa", sum := "f6a71c007b5708ee7309a9f40aae823916f3d4f65ec25a0b04a24ef59ed45d96", func := "loop.example/g01182/laws.FnExactIsBlobs", spec := "fnExactIsBlobs", inPlace := ["internal/bytealg.Compare"], apart := false, narrowed := true }
def FnExactIsBlobsUptoSaid : Prop := fnExactIsBlobsUptoRow.holds Try.pinned (OpenSpec.upto fnExactIsBlobsSpec)

/-- 'laws.FnExactRootOfBlobs', WHERE WHAT IT READS IS OF BULK AT MOST 1048576: true; the input reads as it did. -/
def fnExactRootOfBlobsUptoRow : OpenClaim := { program := "ytcfhdogmkbfnhaa", sum := "f6a71c007b5708ee7309a9f40aae823916f3d4f65ec25a0b04a24ef59ed45d96", func := "loop.example/g01182/laws.FnExactRootOfBlobs", spec := "fnExactRootOfBlobs", inPlace := ["internal/bytealg.Compare"], recurses := true, apart := false, narrowed := true }
def FnExactRootOfBlobsUptoSaid : Prop := fnExactRootOfBlobsUptoRow.holds Try.pinned (OpenSpec.upto fnExactRootOfBlobsSpec)

/-- 'laws.FnExactRunBack', WHERE WHAT IT READS IS OF BULK AT MOST 1048576: true; the input reads as it did. -/
def fnExactRunBackUptoRow : OpenClaim := { program := "ytcfhdogmkbfnhaa", sum := "f6a71c007b5708ee7309a9f40aae823916f3d4f65ec25a0b04a24ef59ed45d96", func := "loop.example/g01182/laws.FnExactRunBack", spec := "fnExactRunBack", unfollowed := true, recurses := true, apart := false, narrowed := true }
def FnExactRunBackUptoSaid : Prop := fnExactRunBackUptoRow.holds Try.pinned (OpenSpec.upto fnExactRunBackSpec)

/-- 'laws.FnExactSlidPlaces', WHERE WHAT IT READS IS OF BULK AT MOST 1048576: true; the input reads as it did. -/
def fnExactSlidPlacesUptoRow : OpenClaim := { program := "ytcfhdogmkbfnhaa", sum := "f6a71c007b5708ee7309a9f40aae823916f3d4f65ec25a0b04a24ef59ed45d96", func := "loop.example/g01182/laws.FnExactSlidPlaces", spec := "fnExactSlidPlaces", apart := false, narrowed := true }
def FnExactSlidPlacesUptoSaid : Prop := fnExactSlidPlacesUptoRow.holds Try.pinned (OpenSpec.upto fnExactSlidPlacesSpec)

/-- 'laws.FnExactIsAbsence', WHERE WHAT IT READS IS OF BULK AT MOST 1048576: true; the input reads as it did. -/
def fnExactIsAbsenceUptoRow : OpenClaim := { program := "ytcfhdogmkbfnhaa", sum := "f6a71c007b5708ee7309a9f40aae823916f3d4f65ec25a0b04a24ef59ed45d96", func := "loop.example/g01182/laws.FnExactIsAbsence", spec := "fnExactIsAbsence", inPlace := ["internal/bytealg.Compare"], recurses := true, apart := false, narrowed := true }
def FnExactIsAbsenceUptoSaid : Prop := fnExactIsAbsenceUptoRow.holds Try.pinned (OpenSpec.upto fnExactIsAbsenceSpec)

/-- 'laws.FnExactAbsenceOf', WHERE WHAT IT READS IS OF BULK AT MOST 1048576: true; the input reads as it did. -/
def fnExactAbsenceOfUptoRow : OpenClaim := { program := "ytcfhdogmkbfnhaa", sum := "f6a71c007b5708ee7309a9f40aae823916f3d4f65ec25a0b04a24ef59ed45d96", func := "loop.example/g01182/laws.FnExactAbsenceOf", spec := "fnExactAbsenceOf", inPlace := ["internal/bytealg.Compare"], unfollowed := true, recurses := true, apart := false, narrowed := true }
def FnExactAbsenceOfUptoSaid : Prop := fnExactAbsenceOfUptoRow.holds Try.pinned (OpenSpec.upto fnExactAbsenceOfSpec)

end Rows
end Go.Proofs.Ytcfhdogmkbfnhaa
