/-
  No cell of these rows narrows 'for every input' (looked for: loops, veiled, ifaces, maps, wideKeys, modest, calm, conditions, laid).
  DERIVED. THE GIVEN ROWS OF THIS SEAT. 11 by the template 'for every input the law returns true; each argument reads behind the call as it read before'; 0 by the template 'total and deterministic' (their statements: YtbdnomfcgbmncaaTotals.lean).
  GIVEN WITH THE SEED: the statements are not yours to turn. If you find one false, say at which input.
  Laid BY PROGRAM, IN A SANDBOX (cutbox-rows.mjs): the forced cells as the released guide's own fill.sh prints them over the translation 03556e2901e851d1… (all of the seat's roots in one cut). By AI agents, Wed Nov 11 2026. No macro, syntax, notation, axiom, sorry.
-/
import Derived.Test.YtbdnomfcgbmncaaChecked
import GoSem.Claim
import GoSem.ClaimJoined
import GoSem.ClaimMapViews
import Derived.JoinedTies
import Derived.KernelRfl
namespace Go.Proofs.Ytbdnomfcgbmncaa
/- THE CELL 'sum', in the pinned program and in every row, IS THE sha256 OF THE DUMP (.gsa) THAT YtbdnomfcgbmncaaProg.lean LOADS. Nothing in Lean hashes anything: it is a label: what it is worth is what the hold of that sum in a sandbox is worth. -/
noncomputable def Try.pinned : Pinned := { name := "ytbdnomfcgbmncaa", sum := "03556e2901e851d17c5d0e672e32536a2291fbf7e214fc624b300761cf08c8c0", checked := Try.checked }
namespace Rows
def none {H : Type} : Left H := { results := [], args := [] }

/-- 'laws.FnExactRoundBack': WHATEVER THE INPUT: true; the input reads as it did. -/
def fnExactRoundBackSpec : ChangeSpec := { name := "fnExactRoundBack", fn := fun _ => fun
  | [d1, d2, d3] => { results := [.lit (.bool true)], args := [d1, d2, d3] }
  | _ => none }
def fnExactRoundBackRow : OpenClaim := { program := "ytbdnomfcgbmncaa", sum := "03556e2901e851d17c5d0e672e32536a2291fbf7e214fc624b300761cf08c8c0", func := "loop.example/g01182/laws.FnExactRoundBack", spec := "fnExactRoundBack", apart := false }
def FnExactRoundBackSaid : Prop := fnExactRoundBackRow.holds Try.pinned (OpenSpec.ofChange fnExactRoundBackSpec)

/-- ITS FALSE NEIGHBOUR: 'it returns false'. Refute it at one input. -/
def fnExactRoundBackWrong : ChangeSpec := { name := "fnExactRoundBack", fn := fun _ => fun
  | [d1, d2, d3] => { results := [.lit (.bool false)], args := [d1, d2, d3] }
  | _ => none }
def FnExactRoundBackWrongFalsely : Prop := fnExactRoundBackRow.holds Try.pinned (OpenSpec.ofChange fnExactRoundBackWrong)

/-- 'laws.FnExactRunNetwork': WHATEVER THE INPUT: true; the input reads as it did. -/
def fnExactRunNetworkSpec : ChangeSpec := { name := "fnExactRunNetwork", fn := fun _ => fun
  | [d1, d2, d3] => { results := [.lit (.bool true)], args := [d1, d2, d3] }
  | _ => none }
def fnExactRunNetworkRow : OpenClaim := { program := "ytbdnomfcgbmncaa", sum := "03556e2901e851d17c5d0e672e32536a2291fbf7e214fc624b300761cf08c8c0", func := "loop.example/g01182/laws.FnExactRunNetwork", spec := "fnExactRunNetwork", apart := false }
def FnExactRunNetworkSaid : Prop := fnExactRunNetworkRow.holds Try.pinned (OpenSpec.ofChange fnExactRunNetworkSpec)

/-- ITS FALSE NEIGHBOUR: 'it returns false'. Refute it at one input. -/
def fnExactRunNetworkWrong : ChangeSpec := { name := "fnExactRunNetwork", fn := fun _ => fun
  | [d1, d2, d3] => { results := [.lit (.bool false)], args := [d1, d2, d3] }
  | _ => none }
def FnExactRunNetworkWrongFalsely : Prop := fnExactRunNetworkRow.holds Try.pinned (OpenSpec.ofChange fnExactRunNetworkWrong)

/-- 'laws.FnExactRunBack': WHATEVER THE INPUT: true; the input reads as it did. -/
def fnExactRunBackSpec : ChangeSpec := { name := "fnExactRunBack", fn := fun _ => fun
  | [d1, d2, d3] => { results := [.lit (.bool true)], args := [d1, d2, d3] }
  | _ => none }
def fnExactRunBackRow : OpenClaim := { program := "ytbdnomfcgbmncaa", sum := "03556e2901e851d17c5d0e672e32536a2291fbf7e214fc624b300761cf08c8c0", func := "loop.example/g01182/laws.FnExactRunBack", spec := "fnExactRunBack", unfollowed := true, recurses := true, apart := false }
def FnExactRunBackSaid : Prop := fnExactRunBackRow.holds Try.pinned (OpenSpec.ofChange fnExactRunBackSpec)

/-- ITS FALSE NEIGHBOUR: 'it returns false'. Refute it at one input. -/
def fnExactRunBackWrong : ChangeSpec := { name := "fnExactRunBack", fn := fun _ => fun
  | [d1, d2, d3] => { results := [.lit (.bool false)], args := [d1, d2, d3] }
  | _ => none }
def FnExactRunBackWrongFalsely : Prop := fnExactRunBackRow.holds Try.pinned (OpenSpec.ofChange fnExactRunBackWrong)

/-- 'laws.FnExactSlidPlaces': WHATEVER THE INPUT: true; the input reads as it did. -/
def fnExactSlidPlacesSpec : ChangeSpec := { name := "fnExactSlidPlaces", fn := fun _ => fun
  | [d1, d2, d3] => { results := [.lit (.bool true)], args := [d1, d2, d3] }
  | _ => none }
def fnExactSlidPlacesRow : OpenClaim := { program := "ytbdnomfcgbmncaa", sum := "03556e2901e851d17c5d0e672e32536a2291fbf7e214fc624b300761cf08c8c0", func := "loop.example/g01182/laws.FnExactSlidPlaces", spec := "fnExactSlidPlaces", apart := false }
def FnExactSlidPlacesSaid : Prop := fnExactSlidPlacesRow.holds Try.pinned (OpenSpec.ofChange fnExactSlidPlacesSpec)

/-- ITS FALSE NEIGHBOUR: 'it returns false'. Refute it at one input. -/
def fnExactSlidPlacesWrong : ChangeSpec := { name := "fnExactSlidPlaces", fn := fun _ => fun
  | [d1, d2, d3] => { results := [.lit (.bool false)], args := [d1, d2, d3] }
  | _ => none }
def FnExactSlidPlacesWrongFalsely : Prop := fnExactSlidPlacesRow.holds Try.pinned (OpenSpec.ofChange fnExactSlidPlacesWrong)

/-- 'laws.FnExactAbsorbBlock': WHATEVER THE INPUT: true; the input reads as it did. -/
def fnExactAbsorbBlockSpec : ChangeSpec := { name := "fnExactAbsorbBlock", fn := fun _ => fun
  | [d1, d2, d3] => { results := [.lit (.bool true)], args := [d1, d2, d3] }
  | _ => none }
def fnExactAbsorbBlockRow : OpenClaim := { program := "ytbdnomfcgbmncaa", sum := "03556e2901e851d17c5d0e672e32536a2291fbf7e214fc624b300761cf08c8c0", func := "loop.example/g01182/laws.FnExactAbsorbBlock", spec := "fnExactAbsorbBlock", inPlace := ["internal/bytealg.IndexByte"], apart := false }
def FnExactAbsorbBlockSaid : Prop := fnExactAbsorbBlockRow.holds Try.pinned (OpenSpec.ofChange fnExactAbsorbBlockSpec)

/-- ITS FALSE NEIGHBOUR: 'it returns false'. Refute it at one input. -/
def fnExactAbsorbBlockWrong : ChangeSpec := { name := "fnExactAbsorbBlock", fn := fun _ => fun
  | [d1, d2, d3] => { results := [.lit (.bool false)], args := [d1, d2, d3] }
  | _ => none }
def FnExactAbsorbBlockWrongFalsely : Prop := fnExactAbsorbBlockRow.holds Try.pinned (OpenSpec.ofChange fnExactAbsorbBlockWrong)

/-- 'laws.FnExactDigestOf': WHATEVER THE INPUT: true; the input reads as it did. -/
def fnExactDigestOfSpec : ChangeSpec := { name := "fnExactDigestOf", fn := fun _ => fun
  | [d1, d2] => { results := [.lit (.bool true)], args := [d1, d2] }
  | _ => none }
def fnExactDigestOfRow : OpenClaim := { program := "ytbdnomfcgbmncaa", sum := "03556e2901e851d17c5d0e672e32536a2291fbf7e214fc624b300761cf08c8c0", func := "loop.example/g01182/laws.FnExactDigestOf", spec := "fnExactDigestOf", inPlace := ["internal/bytealg.IndexByte"], unfollowed := true, recurses := true, apart := false }
def FnExactDigestOfSaid : Prop := fnExactDigestOfRow.holds Try.pinned (OpenSpec.ofChange fnExactDigestOfSpec)

/-- ITS FALSE NEIGHBOUR: 'it returns false'. Refute it at one input. -/
def fnExactDigestOfWrong : ChangeSpec := { name := "fnExactDigestOf", fn := fun _ => fun
  | [d1, d2] => { results := [.lit (.bool false)], args := [d1, d2] }
  | _ => none }
def FnExactDigestOfWrongFalsely : Prop := fnExactDigestOfRow.holds Try.pinned (OpenSpec.ofChange fnExactDigestOfWrong)

/-- 'laws.FnExactSearchDigest': WHATEVER THE INPUT: true; the input reads as it did. -/
def fnExactSearchDigestSpec : ChangeSpec := { name := "fnExactSearchDigest", fn := fun _ => fun
  | [d1, d2, d3] => { results := [.lit (.bool true)], args := [d1, d2, d3] }
  | _ => none }
def fnExactSearchDigestRow : OpenClaim := { program := "ytbdnomfcgbmncaa", sum := "03556e2901e851d17c5d0e672e32536a2291fbf7e214fc624b300761cf08c8c0", func := "loop.example/g01182/laws.FnExactSearchDigest", spec := "fnExactSearchDigest", inPlace := ["internal/bytealg.IndexByte"], apart := false }
def FnExactSearchDigestSaid : Prop := fnExactSearchDigestRow.holds Try.pinned (OpenSpec.ofChange fnExactSearchDigestSpec)

/-- ITS FALSE NEIGHBOUR: 'it returns false'. Refute it at one input. -/
def fnExactSearchDigestWrong : ChangeSpec := { name := "fnExactSearchDigest", fn := fun _ => fun
  | [d1, d2, d3] => { results := [.lit (.bool false)], args := [d1, d2, d3] }
  | _ => none }
def FnExactSearchDigestWrongFalsely : Prop := fnExactSearchDigestRow.holds Try.pinned (OpenSpec.ofChange fnExactSearchDigestWrong)

/-- 'laws.FnExactTagOf': WHATEVER THE INPUT: true; the input reads as it did. -/
def fnExactTagOfSpec : ChangeSpec := { name := "fnExactTagOf", fn := fun _ => fun
  | [d1, d2, d3] => { results := [.lit (.bool true)], args := [d1, d2, d3] }
  | _ => none }
def fnExactTagOfRow : OpenClaim := { program := "ytbdnomfcgbmncaa", sum := "03556e2901e851d17c5d0e672e32536a2291fbf7e214fc624b300761cf08c8c0", func := "loop.example/g01182/laws.FnExactTagOf", spec := "fnExactTagOf", inPlace := ["internal/bytealg.IndexByte"], unfollowed := true, recurses := true, apart := false }
def FnExactTagOfSaid : Prop := fnExactTagOfRow.holds Try.pinned (OpenSpec.ofChange fnExactTagOfSpec)

/-- ITS FALSE NEIGHBOUR: 'it returns false'. Refute it at one input. -/
def fnExactTagOfWrong : ChangeSpec := { name := "fnExactTagOf", fn := fun _ => fun
  | [d1, d2, d3] => { results := [.lit (.bool false)], args := [d1, d2, d3] }
  | _ => none }
def FnExactTagOfWrongFalsely : Prop := fnExactTagOfRow.holds Try.pinned (OpenSpec.ofChange fnExactTagOfWrong)

/-- 'laws.FnExactStreamOf': WHATEVER THE INPUT: true; the input reads as it did. -/
def fnExactStreamOfSpec : ChangeSpec := { name := "fnExactStreamOf", fn := fun _ => fun
  | [d1, d2, d3, d4] => { results := [.lit (.bool true)], args := [d1, d2, d3, d4] }
  | _ => none }
def fnExactStreamOfRow : OpenClaim := { program := "ytbdnomfcgbmncaa", sum := "03556e2901e851d17c5d0e672e32536a2291fbf7e214fc624b300761cf08c8c0", func := "loop.example/g01182/laws.FnExactStreamOf", spec := "fnExactStreamOf", inPlace := ["internal/bytealg.IndexByte"], apart := false }
def FnExactStreamOfSaid : Prop := fnExactStreamOfRow.holds Try.pinned (OpenSpec.ofChange fnExactStreamOfSpec)

/-- ITS FALSE NEIGHBOUR: 'it returns false'. Refute it at one input. -/
def fnExactStreamOfWrong : ChangeSpec := { name := "fnExactStreamOf", fn := fun _ => fun
  | [d1, d2, d3, d4] => { results := [.lit (.bool false)], args := [d1, d2, d3, d4] }
  | _ => none }
def FnExactStreamOfWrongFalsely : Prop := fnExactStreamOfRow.holds Try.pinned (OpenSpec.ofChange fnExactStreamOfWrong)

/-- 'laws.FnExactChainOfTags': WHATEVER THE INPUT: true; the input reads as it did. -/
def fnExactChainOfTagsSpec : ChangeSpec := { name := "fnExactChainOfTags", fn := fun _ => fun
  | [d1, d2, d3] => { results := [.lit (.bool true)], args := [d1, d2, d3] }
  | _ => none }
def fnExactChainOfTagsRow : OpenClaim := { program := "ytbdnomfcgbmncaa", sum := "03556e2901e851d17c5d0e672e32536a2291fbf7e214fc624b300761cf08c8c0", func := "loop.example/g01182/laws.FnExactChainOfTags", spec := "fnExactChainOfTags", inPlace := ["internal/bytealg.IndexByte"], unfollowed := true, recurses := true, apart := false }
def FnExactChainOfTagsSaid : Prop := fnExactChainOfTagsRow.holds Try.pinned (OpenSpec.ofChange fnExactChainOfTagsSpec)

/-- ITS FALSE NEIGHBOUR: 'it returns false'. Refute it at one input. -/
def fnExactChainOfTagsWrong : ChangeSpec := { name := "fnExactChainOfTags", fn := fun _ => fun
  | [d1, d2, d3] => { results := [.lit (.bool false)], args := [d1, d2, d3] }
  | _ => none }
def FnExactChainOfTagsWrongFalsely : Prop := fnExactChainOfTagsRow.holds Try.pinned (OpenSpec.ofChange fnExactChainOfTagsWrong)

/-- 'laws.FnExactFirstBroken': WHATEVER THE INPUT: true; the input reads as it did. -/
def fnExactFirstBrokenSpec : ChangeSpec := { name := "fnExactFirstBroken", fn := fun _ => fun
  | [d1, d2, d3, d4] => { results := [.lit (.bool true)], args := [d1, d2, d3, d4] }
  | _ => none }
def fnExactFirstBrokenRow : OpenClaim := { program := "ytbdnomfcgbmncaa", sum := "03556e2901e851d17c5d0e672e32536a2291fbf7e214fc624b300761cf08c8c0", func := "loop.example/g01182/laws.FnExactFirstBroken", spec := "fnExactFirstBroken", inPlace := ["internal/bytealg.IndexByte"], unfollowed := true, recurses := true, apart := false }
def FnExactFirstBrokenSaid : Prop := fnExactFirstBrokenRow.holds Try.pinned (OpenSpec.ofChange fnExactFirstBrokenSpec)

/-- ITS FALSE NEIGHBOUR: 'it returns false'. Refute it at one input. -/
def fnExactFirstBrokenWrong : ChangeSpec := { name := "fnExactFirstBroken", fn := fun _ => fun
  | [d1, d2, d3, d4] => { results := [.lit (.bool false)], args := [d1, d2, d3, d4] }
  | _ => none }
def FnExactFirstBrokenWrongFalsely : Prop := fnExactFirstBrokenRow.holds Try.pinned (OpenSpec.ofChange fnExactFirstBrokenWrong)

/- THE SECOND FORM. 'bulk': how many values and letters a reading holds, each counted each time it is reached (what is shared counts as often as it is met; a slice's spare places count too). A statement '..UptoSaid' is the law's where the arguments, and the package variables that the reading takes, are together of bulk at most 1048576: NARROWER than '..Said'. Prove '..Said' where nothing that the law and all that it calls make is longer than what came in: it says more and counts as full. Else prove '..UptoSaid'. A law counts once. -/
mutual
def uptoBulk {H : Type} : DataW H → Nat
  | .lit (.string bytes) => bytes.length + 1
  | .lit _ => 1
  | .nil => 1
  | .ptr d => uptoBulk d + 1
  | .slice elems spare => uptoBulkAll elems + uptoBulkAll spare + 1
  | .agg parts => uptoBulkAll parts + 1
  | .iface _ d => uptoBulk d + 1
  | .map entries => uptoBulkEntries entries + 1
  | .held _ => 1
def uptoBulkAll {H : Type} : List (DataW H) → Nat
  | [] => 0
  | d :: r => uptoBulk d + uptoBulkAll r
def uptoBulkEntries {H : Type} : List (Lit × DataW H) → Nat
  | [] => 0
  | x :: r => uptoBulkEntry x + uptoBulkEntries r
def uptoBulkEntry {H : Type} : Lit × DataW H → Nat
  | (.string bytes, d) => bytes.length + uptoBulk d + 1
  | (_, d) => uptoBulk d + 1
 end
def uptoSmall : (H : Type) → List (DataW H) → Bool := fun _ ds => decide (uptoBulkAll ds ≤ 1048576)
def OpenSpec.upto (s : _root_.Go.ChangeSpec) : _root_.Go.OpenSpec := { _root_.Go.OpenSpec.ofChange s with cond := some uptoSmall }

/-- 'laws.FnExactRoundBack', WHERE WHAT IT READS IS OF BULK AT MOST 1048576: true; the input reads as it did. -/
def fnExactRoundBackUptoRow : OpenClaim := { program := "ytbdnomfcgbmncaa", sum := "03556e2901e851d17c5d0e672e32536a2291fbf7e214fc624b300761cf08c8c0", func := "loop.example/g01182/laws.FnExactRoundBack", spec := "fnExactRoundBack", apart := false, narrowed := true }
def FnExactRoundBackUptoSaid : Prop := fnExactRoundBackUptoRow.holds Try.pinned (OpenSpec.upto fnExactRoundBackSpec)

/-- 'laws.FnExactRunNetwork', WHERE WHAT IT READS IS OF BULK AT MOST 1048576: true; the input reads as it did. -/
def fnExactRunNetworkUptoRow : OpenClaim := { program := "ytbdnomfcgbmncaa", sum := "03556e2901e851d17c5d0e672e32536a2291fbf7e214fc624b300761cf08c8c0", func := "loop.example/g01182/laws.FnExactRunNetwork", spec := "fnExactRunNetwork", apart := false, narrowed := true }
def FnExactRunNetworkUptoSaid : Prop := fnExactRunNetworkUptoRow.holds Try.pinned (OpenSpec.upto fnExactRunNetworkSpec)

/-- 'laws.FnExactRunBack', WHERE WHAT IT READS IS OF BULK AT MOST 1048576: true; the input reads as it did. -/
def fnExactRunBackUptoRow : OpenClaim := { program := "ytbdnomfcgbmncaa", sum := "03556e2901e851d17c5d0e672e32536a2291fbf7e214fc624b300761cf08c8c0", func := "loop.example/g01182/laws.FnExactRunBack", spec := "fnExactRunBack", unfollowed := true, recurses := true, apart := false, narrowed := true }
def FnExactRunBackUptoSaid : Prop := fnExactRunBackUptoRow.holds Try.pinned (OpenSpec.upto fnExactRunBackSpec)

/-- 'laws.FnExactSlidPlaces', WHERE WHAT IT READS IS OF BULK AT MOST 1048576: true; the input reads as it did. -/
def fnExactSlidPlacesUptoRow : OpenClaim := { program := "ytbdnomfcgbmncaa", sum := "03556e2901e851d17c5d0e672e32536a2291fbf7e214fc624b300761cf08c8c0", func := "loop.example/g01182/laws.FnExactSlidPlaces", spec := "fnExactSlidPlaces", apart := false, narrowed := true }
def FnExactSlidPlacesUptoSaid : Prop := fnExactSlidPlacesUptoRow.holds Try.pinned (OpenSpec.upto fnExactSlidPlacesSpec)

/-- 'laws.FnExactAbsorbBlock', WHERE WHAT IT READS IS OF BULK AT MOST 1048576: true; the input reads as it did. -/
def fnExactAbsorbBlockUptoRow : OpenClaim := { program := "ytbdnomfcgbmncaa", sum := "03556e2901e851d17c5d0e672e32536a2291fbf7e214fc624b300761cf08c8c0", func := "loop.example/g01182/laws.FnExactAbsorbBlock", spec := "fnExactAbsorbBlock", inPlace := ["internal/bytealg.IndexByte"], apart := false, narrowed := true }
def FnExactAbsorbBlockUptoSaid : Prop := fnExactAbsorbBlockUptoRow.holds Try.pinned (OpenSpec.upto fnExactAbsorbBlockSpec)

/-- 'laws.FnExactDigestOf', WHERE WHAT IT READS IS OF BULK AT MOST 1048576: true; the input reads as it did. -/
def fnExactDigestOfUptoRow : OpenClaim := { program := "ytbdnomfcgbmncaa", sum := "03556e2901e851d17c5d0e672e32536a2291fbf7e214fc624b300761cf08c8c0", func := "loop.example/g01182/laws.FnExactDigestOf", spec := "fnExactDigestOf", inPlace := ["internal/bytealg.IndexByte"], unfollowed := true, recurses := true, apart := false, narrowed := true }
def FnExactDigestOfUptoSaid : Prop := fnExactDigestOfUptoRow.holds Try.pinned (OpenSpec.upto fnExactDigestOfSpec)

/-- 'laws.FnExactSearchDigest', WHERE WHAT IT READS IS OF BULK AT MOST 1048576: true; the input reads as it did. -/
def fnExactSearchDigestUptoRow : OpenClaim := { program := "ytbdnomfcgbmncaa", sum := "03556e2901e851d17c5d0e672e32536a2291fbf7e214fc624b300761cf08c8c0", func := "loop.example/g01182/laws.FnExactSearchDigest", spec := "fnExactSearchDigest", inPlace := ["internal/bytealg.IndexByte"], apart := false, narrowed := true }
def FnExactSearchDigestUptoSaid : Prop := fnExactSearchDigestUptoRow.holds Try.pinned (OpenSpec.upto fnExactSearchDigestSpec)

/-- 'laws.FnExactTagOf', WHERE WHAT IT READS IS OF BULK AT MOST 1048576: true; the input reads as it did. -/
def fnExactTagOfUptoRow : OpenClaim := { program := "ytbdnomfcgbmncaa", sum := "03556e2901e851d17c5d0e672e32536a2291fbf7e214fc624b300761cf08c8c0", func := "loop.example/g01182/laws.FnExactTagOf", spec := "fnExactTagOf", inPlace := ["internal/bytealg.IndexByte"], unfollowed := true, recurses := true, apart := false, narrowed := true }
def FnExactTagOfUptoSaid : Prop := fnExactTagOfUptoRow.holds Try.pinned (OpenSpec.upto fnExactTagOfSpec)

/-- 'laws.FnExactStreamOf', WHERE WHAT IT READS IS OF BULK AT MOST 1048576: true; the input reads as it did. -/
def fnExactStreamOfUptoRow : OpenClaim := { program := "ytbdnomfcgbmncaa", sum := "03556e2901e851d17c5d0e672e32536a2291fbf7e214fc624b300761cf08c8c0", func := "loop.example/g01182/laws.FnExactStreamOf", spec := "fnExactStreamOf", inPlace := ["internal/bytealg.IndexByte"], apart := false, narrowed := true }
def FnExactStreamOfUptoSaid : Prop := fnExactStreamOfUptoRow.holds Try.pinned (OpenSpec.upto fnExactStreamOfSpec)

/-- 'laws.FnExactChainOfTags', WHERE WHAT IT READS IS OF BULK AT MOST 1048576: true; the input reads as it did. -/
def fnExactChainOfTagsUptoRow : OpenClaim := { program := "ytbdnomfcgbmncaa", sum := "03556e2901e851d17c5d0e672e32536a2291fbf7e214fc624b300761cf08c8c0", func := "loop.example/g01182/laws.FnExactChainOfTags", spec := "fnExactChainOfTags", inPlace := ["internal/bytealg.IndexByte"], unfollowed := true, recurses := true, apart := false, narrowed := true }
def FnExactChainOfTagsUptoSaid : Prop := fnExactChainOfTagsUptoRow.holds Try.pinned (OpenSpec.upto fnExactChainOfTagsSpec)

/-- 'laws.FnExactFirstBroken', WHERE WHAT IT READS IS OF BULK AT MOST 1048576: true; the input reads as it did. -/
def fnExactFirstBrokenUptoRow : OpenClaim := { program := "ytbdnomfcgbmncaa", sum := "03556e2901e851d17c5d0e672e32536a2291fbf7e214fc624b300761cf08c8c0", func := "loop.example/g01182/laws.FnExactFirstBroken", spec := "fnExactFirstBroken", inPlace := ["internal/bytealg.IndexByte"], unfollowed := true, recurses := true, apart := false, narrowed := true }
def FnExactFirstBrokenUptoSaid : Prop := fnExactFirstBrokenUptoRow.holds Try.pinned (OpenSpec.upto fnExactFirstBrokenSpec)

end Rows
end Go.Proofs.Ytbdnomfcgbmncaa
