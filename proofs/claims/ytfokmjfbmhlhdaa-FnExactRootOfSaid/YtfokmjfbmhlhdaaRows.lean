/-
  No cell of these rows narrows 'for every input' (looked for: loops, veiled, ifaces, maps, wideKeys, modest, calm, conditions, laid).
  DERIVED. THE GIVEN ROWS OF THIS SEAT. 8 by the template 'for every input the law returns true; each argument reads behind the call as it read before'; 0 by the template 'total and deterministic' (their statements: YtfokmjfbmhlhdaaTotals.lean).
  GIVEN WITH THE SEED: the statements are not yours to turn. If you find one false, say at which input.
  Laid BY PROGRAM, IN A SANDBOX (cutbox-rows.mjs): the forced cells as the released guide's own fill.sh prints them over the translation 2dab067219df5dc5… (all of the seat's roots in one cut). By AI agents, Wed Nov 11 2026. No macro, syntax, notation, axiom, sorry.
-/
import Derived.Test.YtfokmjfbmhlhdaaChecked
import GoSem.Claim
import GoSem.ClaimJoined
import GoSem.ClaimMapViews
import Derived.JoinedTies
import Derived.KernelRfl
namespace Go.Proofs.Ytfokmjfbmhlhdaa
/- THE CELL 'sum', in the pinned program and in every row, IS THE sha256 OF THE DUMP (.gsa) THAT YtfokmjfbmhlhdaaProg.lean LOADS. Nothing in Lean hashes anything: it is a label: what it is worth is what the hold of that sum in a sandbox is worth. -/
noncomputable def Try.pinned : Pinned := { name := "ytfokmjfbmhlhdaa", sum := "2dab067219df5dc57190a64e211edb8f08a885d4903655835fbaa8feae904cc6", checked := Try.checked }
namespace Rows
def none {H : Type} : Left H := { results := [], args := [] }

/-- 'laws.FnExactNodeOf': WHATEVER THE INPUT: true; the input reads as it did. -/
def fnExactNodeOfSpec : ChangeSpec := { name := "fnExactNodeOf", fn := fun _ => fun
  | [d1, d2] => { results := [.lit (.bool true)], args := [d1, d2] }
  | _ => none }
def fnExactNodeOfRow : OpenClaim := { program := "ytfokmjfbmhlhdaa", sum := "2dab067219df5dc57190a64e211edb8f08a885d4903655835fbaa8feae904cc6", func := "loop.example/g01182/laws.FnExactNodeOf", spec := "fnExactNodeOf", apart := false }
def FnExactNodeOfSaid : Prop := fnExactNodeOfRow.holds Try.pinned (OpenSpec.ofChange fnExactNodeOfSpec)

/-- ITS FALSE NEIGHBOUR: 'it returns false'. Refute it at one input. -/
def fnExactNodeOfWrong : ChangeSpec := { name := "fnExactNodeOf", fn := fun _ => fun
  | [d1, d2] => { results := [.lit (.bool false)], args := [d1, d2] }
  | _ => none }
def FnExactNodeOfWrongFalsely : Prop := fnExactNodeOfRow.holds Try.pinned (OpenSpec.ofChange fnExactNodeOfWrong)

/-- 'laws.FnExactRoundBack': WHATEVER THE INPUT: true; the input reads as it did. -/
def fnExactRoundBackSpec : ChangeSpec := { name := "fnExactRoundBack", fn := fun _ => fun
  | [d1, d2, d3] => { results := [.lit (.bool true)], args := [d1, d2, d3] }
  | _ => none }
def fnExactRoundBackRow : OpenClaim := { program := "ytfokmjfbmhlhdaa", sum := "2dab067219df5dc57190a64e211edb8f08a885d4903655835fbaa8feae904cc6", func := "loop.example/g01182/laws.FnExactRoundBack", spec := "fnExactRoundBack", apart := false }
def FnExactRoundBackSaid : Prop := fnExactRoundBackRow.holds Try.pinned (OpenSpec.ofChange fnExactRoundBackSpec)

/-- ITS FALSE NEIGHBOUR: 'it returns false'. Refute it at one input. -/
def fnExactRoundBackWrong : ChangeSpec := { name := "fnExactRoundBack", fn := fun _ => fun
  | [d1, d2, d3] => { results := [.lit (.bool false)], args := [d1, d2, d3] }
  | _ => none }
def FnExactRoundBackWrongFalsely : Prop := fnExactRoundBackRow.holds Try.pinned (OpenSpec.ofChange fnExactRoundBackWrong)

/-- 'laws.FnExactLeafOf': WHATEVER THE INPUT: true; the input reads as it did. -/
def fnExactLeafOfSpec : ChangeSpec := { name := "fnExactLeafOf", fn := fun _ => fun
  | [d] => { results := [.lit (.bool true)], args := [d] }
  | _ => none }
def fnExactLeafOfRow : OpenClaim := { program := "ytfokmjfbmhlhdaa", sum := "2dab067219df5dc57190a64e211edb8f08a885d4903655835fbaa8feae904cc6", func := "loop.example/g01182/laws.FnExactLeafOf", spec := "fnExactLeafOf", apart := false }
def FnExactLeafOfSaid : Prop := fnExactLeafOfRow.holds Try.pinned (OpenSpec.ofChange fnExactLeafOfSpec)

/-- ITS FALSE NEIGHBOUR: 'it returns false'. Refute it at one input. -/
def fnExactLeafOfWrong : ChangeSpec := { name := "fnExactLeafOf", fn := fun _ => fun
  | [d] => { results := [.lit (.bool false)], args := [d] }
  | _ => none }
def FnExactLeafOfWrongFalsely : Prop := fnExactLeafOfRow.holds Try.pinned (OpenSpec.ofChange fnExactLeafOfWrong)

/-- 'laws.FnExactHouseDigest': WHATEVER THE INPUT: true; the input reads as it did. -/
def fnExactHouseDigestSpec : ChangeSpec := { name := "fnExactHouseDigest", fn := fun _ => fun
  | [d] => { results := [.lit (.bool true)], args := [d] }
  | _ => none }
def fnExactHouseDigestRow : OpenClaim := { program := "ytfokmjfbmhlhdaa", sum := "2dab067219df5dc57190a64e211edb8f08a885d4903655835fbaa8feae904cc6", func := "loop.example/g01182/laws.FnExactHouseDigest", spec := "fnExactHouseDigest", apart := false }
def FnExactHouseDigestSaid : Prop := fnExactHouseDigestRow.holds Try.pinned (OpenSpec.ofChange fnExactHouseDigestSpec)

/-- ITS FALSE NEIGHBOUR: 'it returns false'. Refute it at one input. -/
def fnExactHouseDigestWrong : ChangeSpec := { name := "fnExactHouseDigest", fn := fun _ => fun
  | [d] => { results := [.lit (.bool false)], args := [d] }
  | _ => none }
def FnExactHouseDigestWrongFalsely : Prop := fnExactHouseDigestRow.holds Try.pinned (OpenSpec.ofChange fnExactHouseDigestWrong)

/-- 'laws.FnExactRunNetwork': WHATEVER THE INPUT: true; the input reads as it did. -/
def fnExactRunNetworkSpec : ChangeSpec := { name := "fnExactRunNetwork", fn := fun _ => fun
  | [d1, d2, d3] => { results := [.lit (.bool true)], args := [d1, d2, d3] }
  | _ => none }
def fnExactRunNetworkRow : OpenClaim := { program := "ytfokmjfbmhlhdaa", sum := "2dab067219df5dc57190a64e211edb8f08a885d4903655835fbaa8feae904cc6", func := "loop.example/g01182/laws.FnExactRunNetwork", spec := "fnExactRunNetwork", apart := false }
def FnExactRunNetworkSaid : Prop := fnExactRunNetworkRow.holds Try.pinned (OpenSpec.ofChange fnExactRunNetworkSpec)

/-- ITS FALSE NEIGHBOUR: 'it returns false'. Refute it at one input. -/
def fnExactRunNetworkWrong : ChangeSpec := { name := "fnExactRunNetwork", fn := fun _ => fun
  | [d1, d2, d3] => { results := [.lit (.bool false)], args := [d1, d2, d3] }
  | _ => none }
def FnExactRunNetworkWrongFalsely : Prop := fnExactRunNetworkRow.holds Try.pinned (OpenSpec.ofChange fnExactRunNetworkWrong)

/-- 'laws.FnExactAbsorbBlock': WHATEVER THE INPUT: true; the input reads as it did. -/
def fnExactAbsorbBlockSpec : ChangeSpec := { name := "fnExactAbsorbBlock", fn := fun _ => fun
  | [d1, d2, d3] => { results := [.lit (.bool true)], args := [d1, d2, d3] }
  | _ => none }
def fnExactAbsorbBlockRow : OpenClaim := { program := "ytfokmjfbmhlhdaa", sum := "2dab067219df5dc57190a64e211edb8f08a885d4903655835fbaa8feae904cc6", func := "loop.example/g01182/laws.FnExactAbsorbBlock", spec := "fnExactAbsorbBlock", inPlace := ["internal/bytealg.IndexByte"], apart := false }
def FnExactAbsorbBlockSaid : Prop := fnExactAbsorbBlockRow.holds Try.pinned (OpenSpec.ofChange fnExactAbsorbBlockSpec)

/-- ITS FALSE NEIGHBOUR: 'it returns false'. Refute it at one input. -/
def fnExactAbsorbBlockWrong : ChangeSpec := { name := "fnExactAbsorbBlock", fn := fun _ => fun
  | [d1, d2, d3] => { results := [.lit (.bool false)], args := [d1, d2, d3] }
  | _ => none }
def FnExactAbsorbBlockWrongFalsely : Prop := fnExactAbsorbBlockRow.holds Try.pinned (OpenSpec.ofChange fnExactAbsorbBlockWrong)

/-- 'laws.FnExactRootOf': WHATEVER THE INPUT: true; the input reads as it did. -/
def fnExactRootOfSpec : ChangeSpec := { name := "fnExactRootOf", fn := fun _ => fun
  | [d] => { results := [.lit (.bool true)], args := [d] }
  | _ => none }
def fnExactRootOfRow : OpenClaim := { program := "ytfokmjfbmhlhdaa", sum := "2dab067219df5dc57190a64e211edb8f08a885d4903655835fbaa8feae904cc6", func := "loop.example/g01182/laws.FnExactRootOf", spec := "fnExactRootOf", recurses := true, apart := false }
def FnExactRootOfSaid : Prop := fnExactRootOfRow.holds Try.pinned (OpenSpec.ofChange fnExactRootOfSpec)

/-- ITS FALSE NEIGHBOUR: 'it returns false'. Refute it at one input. -/
def fnExactRootOfWrong : ChangeSpec := { name := "fnExactRootOf", fn := fun _ => fun
  | [d] => { results := [.lit (.bool false)], args := [d] }
  | _ => none }
def FnExactRootOfWrongFalsely : Prop := fnExactRootOfRow.holds Try.pinned (OpenSpec.ofChange fnExactRootOfWrong)

/-- 'laws.FnExactRunBack': WHATEVER THE INPUT: true; the input reads as it did. -/
def fnExactRunBackSpec : ChangeSpec := { name := "fnExactRunBack", fn := fun _ => fun
  | [d1, d2, d3] => { results := [.lit (.bool true)], args := [d1, d2, d3] }
  | _ => none }
def fnExactRunBackRow : OpenClaim := { program := "ytfokmjfbmhlhdaa", sum := "2dab067219df5dc57190a64e211edb8f08a885d4903655835fbaa8feae904cc6", func := "loop.example/g01182/laws.FnExactRunBack", spec := "fnExactRunBack", unfollowed := true, recurses := true, apart := false }
def FnExactRunBackSaid : Prop := fnExactRunBackRow.holds Try.pinned (OpenSpec.ofChange fnExactRunBackSpec)

/-- ITS FALSE NEIGHBOUR: 'it returns false'. Refute it at one input. -/
def fnExactRunBackWrong : ChangeSpec := { name := "fnExactRunBack", fn := fun _ => fun
  | [d1, d2, d3] => { results := [.lit (.bool false)], args := [d1, d2, d3] }
  | _ => none }
def FnExactRunBackWrongFalsely : Prop := fnExactRunBackRow.holds Try.pinned (OpenSpec.ofChange fnExactRunBackWrong)

/- THE SECOND FORM. 'bulk': how many values and letters a reading holds, each counted each time it is reached (what is shared counts as often as it is met; a slice's spare places count too). A statement '..UptoSaid' is the law's where the arguments, and the package variables that the reading takes, are together of bulk at most 1048576: NARROWER than '..Said'. Prove '..Said' where nothing that the law and all that it calls make is longer than what came in: it says more and counts as full. Else prove '..UptoSaid'. A law counts once. -/
mutual
def uptoBulk {H : Type} : DataW H → Nat
  | .lit (.string bytes) => bytes.length + 1
  | .lit _ => 1
  | .nil => 1
  | .ptr d => uptoBulk d + 1
  | .slice elems spare => uptoBulkAll elems + uptoBulkAll spare + 1
  | .agg parts => uptoBulkAll parts + 1
  | .iface _ d => uptoBulk d + 1
  | .map entries => uptoBulkEntries entries + 1
  | .held _ => 1
def uptoBulkAll {H : Type} : List (DataW H) → Nat
  | [] => 0
  | d :: r => uptoBulk d + uptoBulkAll r
def uptoBulkEntries {H : Type} : List (Lit × DataW H) → Nat
  | [] => 0
  | x :: r => uptoBulkEntry x + uptoBulkEntries r
def uptoBulkEntry {H : Type} : Lit × DataW H → Nat
  | (.string bytes, d) => bytes.length + uptoBulk d + 1
  | (_, d) => uptoBulk d + 1
 end
def uptoSmall : (H : Type) → List (DataW H) → Bool := fun _ ds => decide (uptoBulkAll ds ≤ 1048576)
def OpenSpec.upto (s : _root_.Go.ChangeSpec) : _root_.Go.OpenSpec := { _root_.Go.OpenSpec.ofChange s with cond := some uptoSmall }

/-- 'laws.FnExactNodeOf', WHERE WHAT IT READS IS OF BULK AT MOST 1048576: true; the input reads as it did. -/
def fnExactNodeOfUptoRow : OpenClaim := { program := "ytfokmjfbmhlhdaa", sum := "2dab067219df5dc57190a64e211edb8f08a885d4903655835fbaa8feae904cc6", func := "loop.example/g01182/laws.FnExactNodeOf", spec := "fnExactNodeOf", apart := false, narrowed := true }
def FnExactNodeOfUptoSaid : Prop := fnExactNodeOfUptoRow.holds Try.pinned (OpenSpec.upto fnExactNodeOfSpec)

/-- 'laws.FnExactRoundBack', WHERE WHAT IT READS IS OF BULK AT MOST 1048576: true; the input reads as it did. -/
def fnExactRoundBackUptoRow : OpenClaim := { program := "ytfokmjfbmhlhdaa", sum := "2dab067219df5dc57190a64e211edb8f08a885d4903655835fbaa8feae904cc6", func := "loop.example/g01182/laws.FnExactRoundBack", spec := "fnExactRoundBack", apart := false, narrowed := true }
def FnExactRoundBackUptoSaid : Prop := fnExactRoundBackUptoRow.holds Try.pinned (OpenSpec.upto fnExactRoundBackSpec)

/-- 'laws.FnExactLeafOf', WHERE WHAT IT READS IS OF BULK AT MOST 1048576: true; the input reads as it did. -/
def fnExactLeafOfUptoRow : OpenClaim := { program := "ytfokmjfbmhlhdaa", sum := "2dab067219df5dc57190a64e211edb8f08a885d4903655835fbaa8feae904cc6", func := "loop.example/g01182/laws.FnExactLeafOf", spec := "fnExactLeafOf", apart := false, narrowed := true }
def FnExactLeafOfUptoSaid : Prop := fnExactLeafOfUptoRow.holds Try.pinned (OpenSpec.upto fnExactLeafOfSpec)

/-- 'laws.FnExactHouseDigest', WHERE WHAT IT READS IS OF BULK AT MOST 1048576: true; the input reads as it did. -/
def fnExactHouseDigestUptoRow : OpenClaim := { program := "ytfokmjfbmhlhdaa", sum := "2dab067219df5dc57190a64e211edb8f08a885d4903655835fbaa8feae904cc6", func := "loop.example/g01182/laws.FnExactHouseDigest", spec := "fnExactHouseDigest", apart := false, narrowed := true }
def FnExactHouseDigestUptoSaid : Prop := fnExactHouseDigestUptoRow.holds Try.pinned (OpenSpec.upto fnExactHouseDigestSpec)

/-- 'laws.FnExactRunNetwork', WHERE WHAT IT READS IS OF BULK AT MOST 1048576: true; the input reads as it did. -/
def fnExactRunNetworkUptoRow : OpenClaim := { program := "ytfokmjfbmhlhdaa", sum := "2dab067219df5dc57190a64e211edb8f08a885d4903655835fbaa8feae904cc6", func := "loop.example/g01182/laws.FnExactRunNetwork", spec := "fnExactRunNetwork", apart := false, narrowed := true }
def FnExactRunNetworkUptoSaid : Prop := fnExactRunNetworkUptoRow.holds Try.pinned (OpenSpec.upto fnExactRunNetworkSpec)

/-- 'laws.FnExactAbsorbBlock', WHERE WHAT IT READS IS OF BULK AT MOST 1048576: true; the input reads as it did. -/
def fnExactAbsorbBlockUptoRow : OpenClaim := { program := "ytfokmjfbmhlhdaa", sum := "2dab067219df5dc57190a64e211edb8f08a885d4903655835fbaa8feae904cc6", func := "loop.example/g01182/laws.FnExactAbsorbBlock", spec := "fnExactAbsorbBlock", inPlace := ["internal/bytealg.IndexByte"], apart := false, narrowed := true }
def FnExactAbsorbBlockUptoSaid : Prop := fnExactAbsorbBlockUptoRow.holds Try.pinned (OpenSpec.upto fnExactAbsorbBlockSpec)

/-- 'laws.FnExactRootOf', WHERE WHAT IT READS IS OF BULK AT MOST 1048576: true; the input reads as it did. -/
def fnExactRootOfUptoRow : OpenClaim := { program := "ytfokmjfbmhlhdaa", sum := "2dab067219df5dc57190a64e211edb8f08a885d4903655835fbaa8feae904cc6", func := "loop.example/g01182/laws.FnExactRootOf", spec := "fnExactRootOf", recurses := true, apart := false, narrowed := true }
def FnExactRootOfUptoSaid : Prop := fnExactRootOfUptoRow.holds Try.pinned (OpenSpec.upto fnExactRootOfSpec)

/-- 'laws.FnExactRunBack', WHERE WHAT IT READS IS OF BULK AT MOST 1048576: true; the input reads as it did. -/
def fnExactRunBackUptoRow : OpenClaim := { program := "ytfokmjfbmhlhdaa", sum := "2dab067219df5dc57190a64e211edb8f08a885d4903655835fbaa8feae904cc6", func := "loop.example/g01182/laws.FnExactRunBack", spec := "fnExactRunBack", unfollowed := true, recurses := true, apart := false, narrowed := true }
def FnExactRunBackUptoSaid : Prop := fnExactRunBackUptoRow.holds Try.pinned (OpenSpec.upto fnExactRunBackSpec)

end Rows
end Go.Proofs.Ytfokmjfbmhlhdaa
