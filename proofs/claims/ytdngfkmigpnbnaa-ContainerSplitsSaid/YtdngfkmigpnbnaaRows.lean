/-
  No cell of these rows narrows 'for every input' (looked for: loops, veiled, ifaces, maps, wideKeys, modest, calm, conditions, laid).
  DERIVED. THE GIVEN ROWS OF THIS SEAT. 6 by the template 'for every input the law returns true; each argument reads behind the call as it read before'; 0 by the template 'total and deterministic' (their statements: YtdngfkmigpnbnaaTotals.lean).
  GIVEN WITH THE SEED: the statements are not yours to turn. If you find one false, say at which input.
  Laid BY PROGRAM, IN A SANDBOX (cutbox-rows.mjs): the forced cells as the released guide's own fill.sh prints them over the translation e29928a46e523e82… (all of the seat's roots in one cut). By AI agents, Wed Nov 11 2026. No macro, syntax, notation, axiom, sorry.
-/
import Derived.Test.YtdngfkmigpnbnaaChecked
import GoSem.Claim
import GoSem.ClaimJoined
import GoSem.ClaimMapViews
import Derived.JoinedTies
import Derived.KernelRfl
namespace Go.Proofs.Ytdngfkmigpnbnaa
/- THE CELL 'sum', in the pinned program and in every row, IS THE sha256 OF THE DUMP (.gsa) THAT YtdngfkmigpnbnaaProg.lean LOADS. Nothing in Lean hashes anything: it is a label: what it is worth is what the hold of that sum in a sandbox is worth. -/
noncomputable def Try.pinned : Pinned := { name := "ytdngfkmigpnbnaa", sum := "e29928a46e523e82941b74d4c801c607b385e4b5f38be966c10fa084fb5c9daf", checked := Try.checked }
namespace Rows
def none {H : Type} : Left H := { results := [], args := [] }

/-- 'chapmanlaw09.ContainerMatchesReference': WHATEVER THE INPUT: true; the input reads as it did. -/
def containerMatchesReferenceSpec : ChangeSpec := { name := "containerMatchesReference", fn := fun _ => fun
  | [d1, d2, d3] => { results := [.lit (.bool true)], args := [d1, d2, d3] }
  | _ => none }
def containerMatchesReferenceRow : OpenClaim := { program := "ytdngfkmigpnbnaa", sum := "e29928a46e523e82941b74d4c801c607b385e4b5f38be966c10fa084fb5c9daf", func := "chapman/chapmanlaw09.ContainerMatchesReference", spec := "containerMatchesReference", unfollowed := true, recurses := true, apart := false }
def ContainerMatchesReferenceSaid : Prop := containerMatchesReferenceRow.holds Try.pinned (OpenSpec.ofChange containerMatchesReferenceSpec)

/-- ITS FALSE NEIGHBOUR: 'it returns false'. Refute it at one input. -/
def containerMatchesReferenceWrong : ChangeSpec := { name := "containerMatchesReference", fn := fun _ => fun
  | [d1, d2, d3] => { results := [.lit (.bool false)], args := [d1, d2, d3] }
  | _ => none }
def ContainerMatchesReferenceWrongFalsely : Prop := containerMatchesReferenceRow.holds Try.pinned (OpenSpec.ofChange containerMatchesReferenceWrong)

/-- 'chapmanlaw09.ContainerInverse': WHATEVER THE INPUT: true; the input reads as it did. -/
def containerInverseSpec : ChangeSpec := { name := "containerInverse", fn := fun _ => fun
  | [d1, d2] => { results := [.lit (.bool true)], args := [d1, d2] }
  | _ => none }
def containerInverseRow : OpenClaim := { program := "ytdngfkmigpnbnaa", sum := "e29928a46e523e82941b74d4c801c607b385e4b5f38be966c10fa084fb5c9daf", func := "chapman/chapmanlaw09.ContainerInverse", spec := "containerInverse", unfollowed := true, recurses := true, apart := false }
def ContainerInverseSaid : Prop := containerInverseRow.holds Try.pinned (OpenSpec.ofChange containerInverseSpec)

/-- ITS FALSE NEIGHBOUR: 'it returns false'. Refute it at one input. -/
def containerInverseWrong : ChangeSpec := { name := "containerInverse", fn := fun _ => fun
  | [d1, d2] => { results := [.lit (.bool false)], args := [d1, d2] }
  | _ => none }
def ContainerInverseWrongFalsely : Prop := containerInverseRow.holds Try.pinned (OpenSpec.ofChange containerInverseWrong)

/-- 'chapmanlaw09.ContainerShort': WHATEVER THE INPUT: true; the input reads as it did. -/
def containerShortSpec : ChangeSpec := { name := "containerShort", fn := fun _ => fun
  | [d1, d2] => { results := [.lit (.bool true)], args := [d1, d2] }
  | _ => none }
def containerShortRow : OpenClaim := { program := "ytdngfkmigpnbnaa", sum := "e29928a46e523e82941b74d4c801c607b385e4b5f38be966c10fa084fb5c9daf", func := "chapman/chapmanlaw09.ContainerShort", spec := "containerShort", unfollowed := true, recurses := true, apart := false }
def ContainerShortSaid : Prop := containerShortRow.holds Try.pinned (OpenSpec.ofChange containerShortSpec)

/-- ITS FALSE NEIGHBOUR: 'it returns false'. Refute it at one input. -/
def containerShortWrong : ChangeSpec := { name := "containerShort", fn := fun _ => fun
  | [d1, d2] => { results := [.lit (.bool false)], args := [d1, d2] }
  | _ => none }
def ContainerShortWrongFalsely : Prop := containerShortRow.holds Try.pinned (OpenSpec.ofChange containerShortWrong)

/-- 'chapmanlaw09.ContainerDamage': WHATEVER THE INPUT: true; the input reads as it did. -/
def containerDamageSpec : ChangeSpec := { name := "containerDamage", fn := fun _ => fun
  | [d1, d2, d3] => { results := [.lit (.bool true)], args := [d1, d2, d3] }
  | _ => none }
def containerDamageRow : OpenClaim := { program := "ytdngfkmigpnbnaa", sum := "e29928a46e523e82941b74d4c801c607b385e4b5f38be966c10fa084fb5c9daf", func := "chapman/chapmanlaw09.ContainerDamage", spec := "containerDamage", unfollowed := true, recurses := true, apart := false }
def ContainerDamageSaid : Prop := containerDamageRow.holds Try.pinned (OpenSpec.ofChange containerDamageSpec)

/-- ITS FALSE NEIGHBOUR: 'it returns false'. Refute it at one input. -/
def containerDamageWrong : ChangeSpec := { name := "containerDamage", fn := fun _ => fun
  | [d1, d2, d3] => { results := [.lit (.bool false)], args := [d1, d2, d3] }
  | _ => none }
def ContainerDamageWrongFalsely : Prop := containerDamageRow.holds Try.pinned (OpenSpec.ofChange containerDamageWrong)

/-- 'chapmanlaw09.ContainerSplits': WHATEVER THE INPUT: true; the input reads as it did. -/
def containerSplitsSpec : ChangeSpec := { name := "containerSplits", fn := fun _ => fun
  | [d1, d2] => { results := [.lit (.bool true)], args := [d1, d2] }
  | _ => none }
def containerSplitsRow : OpenClaim := { program := "ytdngfkmigpnbnaa", sum := "e29928a46e523e82941b74d4c801c607b385e4b5f38be966c10fa084fb5c9daf", func := "chapman/chapmanlaw09.ContainerSplits", spec := "containerSplits", unfollowed := true, recurses := true, apart := false }
def ContainerSplitsSaid : Prop := containerSplitsRow.holds Try.pinned (OpenSpec.ofChange containerSplitsSpec)

/-- ITS FALSE NEIGHBOUR: 'it returns false'. Refute it at one input. -/
def containerSplitsWrong : ChangeSpec := { name := "containerSplits", fn := fun _ => fun
  | [d1, d2] => { results := [.lit (.bool false)], args := [d1, d2] }
  | _ => none }
def ContainerSplitsWrongFalsely : Prop := containerSplitsRow.holds Try.pinned (OpenSpec.ofChange containerSplitsWrong)

/-- 'chapmanlaw09.ContainerOrders': WHATEVER THE INPUT: true; the input reads as it did. -/
def containerOrdersSpec : ChangeSpec := { name := "containerOrders", fn := fun _ => fun
  | [d1, d2, d3] => { results := [.lit (.bool true)], args := [d1, d2, d3] }
  | _ => none }
def containerOrdersRow : OpenClaim := { program := "ytdngfkmigpnbnaa", sum := "e29928a46e523e82941b74d4c801c607b385e4b5f38be966c10fa084fb5c9daf", func := "chapman/chapmanlaw09.ContainerOrders", spec := "containerOrders", unfollowed := true, recurses := true, apart := false }
def ContainerOrdersSaid : Prop := containerOrdersRow.holds Try.pinned (OpenSpec.ofChange containerOrdersSpec)

/-- ITS FALSE NEIGHBOUR: 'it returns false'. Refute it at one input. -/
def containerOrdersWrong : ChangeSpec := { name := "containerOrders", fn := fun _ => fun
  | [d1, d2, d3] => { results := [.lit (.bool false)], args := [d1, d2, d3] }
  | _ => none }
def ContainerOrdersWrongFalsely : Prop := containerOrdersRow.holds Try.pinned (OpenSpec.ofChange containerOrdersWrong)

/- THE SECOND FORM. 'bulk': how many values and letters a reading holds, each counted each time it is reached (what is shared counts as often as it is met; a slice's spare places count too). A statement '..UptoSaid' is the law's where the arguments, and the package variables that the reading takes, are together of bulk at most 1048576: NARROWER than '..Said'. Prove '..Said' where nothing that the law and all that it calls make is longer than what came in: it says more and counts as full. Else prove '..UptoSaid'. A law counts once. -/
mutual
def uptoBulk {H : Type} : DataW H → Nat
  | .lit (.string bytes) => bytes.length + 1
  | .lit _ => 1
  | .nil => 1
  | .ptr d => uptoBulk d + 1
  | .slice elems spare => uptoBulkAll elems + uptoBulkAll spare + 1
  | .agg parts => uptoBulkAll parts + 1
  | .iface _ d => uptoBulk d + 1
  | .map entries => uptoBulkEntries entries + 1
  | .held _ => 1
def uptoBulkAll {H : Type} : List (DataW H) → Nat
  | [] => 0
  | d :: r => uptoBulk d + uptoBulkAll r
def uptoBulkEntries {H : Type} : List (Lit × DataW H) → Nat
  | [] => 0
  | x :: r => uptoBulkEntry x + uptoBulkEntries r
def uptoBulkEntry {H : Type} : Lit × DataW H → Nat
  | (.string bytes, d) => bytes.length + uptoBulk d + 1
  | (_, d) => uptoBulk d + 1
 end
def uptoSmall : (H : Type) → List (DataW H) → Bool := fun _ ds => decide (uptoBulkAll ds ≤ 1048576)
def OpenSpec.upto (s : _root_.Go.ChangeSpec) : _root_.Go.OpenSpec := { _root_.Go.OpenSpec.ofChange s with cond := some uptoSmall }

/-- 'chapmanlaw09.ContainerMatchesReference', WHERE WHAT IT READS IS OF BULK AT MOST 1048576: true; the input reads as it did. -/
def containerMatchesReferenceUptoRow : OpenClaim := { program := "ytdngfkmigpnbnaa", sum := "e29928a46e523e82941b74d4c801c607b385e4b5f38be966c10fa084fb5c9daf", func := "chapman/chapmanlaw09.ContainerMatchesReference", spec := "containerMatchesReference", unfollowed := true, recurses := true, apart := false, narrowed := true }
def ContainerMatchesReferenceUptoSaid : Prop := containerMatchesReferenceUptoRow.holds Try.pinned (OpenSpec.upto containerMatchesReferenceSpec)

/-- 'chapmanlaw09.ContainerInverse', WHERE WHAT IT READS IS OF BULK AT MOST 1048576: true; the input reads as it did. -/
def containerInverseUptoRow : OpenClaim := { program := "ytdngfkmigpnbnaa", sum := "e29928a46e523e82941b74d4c801c607b385e4b5f38be966c10fa084fb5c9daf", func := "chapman/chapmanlaw09.ContainerInverse", spec := "containerInverse", unfollowed := true, recurses := true, apart := false, narrowed := true }
def ContainerInverseUptoSaid : Prop := containerInverseUptoRow.holds Try.pinned (OpenSpec.upto containerInverseSpec)

/-- 'chapmanlaw09.ContainerShort', WHERE WHAT IT READS IS OF BULK AT MOST 1048576: true; the input reads as it did. -/
def containerShortUptoRow : OpenClaim := { program := "ytdngfkmigpnbnaa", sum := "e29928a46e523e82941b74d4c801c607b385e4b5f38be966c10fa084fb5c9daf", func := "chapman/chapmanlaw09.ContainerShort", spec := "containerShort", unfollowed := true, recurses := true, apart := false, narrowed := true }
def ContainerShortUptoSaid : Prop := containerShortUptoRow.holds Try.pinned (OpenSpec.upto containerShortSpec)

/-- 'chapmanlaw09.ContainerDamage', WHERE WHAT IT READS IS OF BULK AT MOST 1048576: true; the input reads as it did. -/
def containerDamageUptoRow : OpenClaim := { program := "ytdngfkmigpnbnaa", sum := "e29928a46e523e82941b74d4c801c607b385e4b5f38be966c10fa084fb5c9daf", func := "chapman/chapmanlaw09.ContainerDamage", spec := "containerDamage", unfollowed := true, recurses := true, apart := false, narrowed := true }
def ContainerDamageUptoSaid : Prop := containerDamageUptoRow.holds Try.pinned (OpenSpec.upto containerDamageSpec)

/-- 'chapmanlaw09.ContainerSplits', WHERE WHAT IT READS IS OF BULK AT MOST 1048576: true; the input reads as it did. -/
def containerSplitsUptoRow : OpenClaim := { program := "ytdngfkmigpnbnaa", sum := "e29928a46e523e82941b74d4c801c607b385e4b5f38be966c10fa084fb5c9daf", func := "chapman/chapmanlaw09.ContainerSplits", spec := "containerSplits", unfollowed := true, recurses := true, apart := false, narrowed := true }
def ContainerSplitsUptoSaid : Prop := containerSplitsUptoRow.holds Try.pinned (OpenSpec.upto containerSplitsSpec)

/-- 'chapmanlaw09.ContainerOrders', WHERE WHAT IT READS IS OF BULK AT MOST 1048576: true; the input reads as it did. -/
def containerOrdersUptoRow : OpenClaim := { program := "ytdngfkmigpnbnaa", sum := "e29928a46e523e82941b74d4c801c607b385e4b5f38be966c10fa084fb5c9daf", func := "chapman/chapmanlaw09.ContainerOrders", spec := "containerOrders", unfollowed := true, recurses := true, apart := false, narrowed := true }
def ContainerOrdersUptoSaid : Prop := containerOrdersUptoRow.holds Try.pinned (OpenSpec.upto containerOrdersSpec)

end Rows
end Go.Proofs.Ytdngfkmigpnbnaa
