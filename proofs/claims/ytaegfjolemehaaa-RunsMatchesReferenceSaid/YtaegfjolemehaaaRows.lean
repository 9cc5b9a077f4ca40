/-
  No cell of these rows narrows 'for every input' (looked for: loops, veiled, ifaces, maps, wideKeys, modest, calm, conditions, laid).
  DERIVED. THE GIVEN ROWS OF THIS SEAT. 6 by the template 'for every input the law returns true; each argument reads behind the call as it read before'; 0 by the template 'total and deterministic' (their statements: YtaegfjolemehaaaTotals.lean).
  GIVEN WITH THE SEED: the statements are not yours to turn. If you find one false, say at which input.
  Laid BY PROGRAM, IN A SANDBOX (cutbox-rows.mjs): the forced cells as the released guide's own fill.sh prints them over the translation 5d64c76970f71a3c… (all of the seat's roots in one cut). By AI agents, Wed Nov 11 2026. No macro, syntax, notation, axiom, sorry.
-/
import Derived.Test.YtaegfjolemehaaaChecked
import GoSem.Claim
import GoSem.ClaimJoined
import GoSem.ClaimMapViews
import Derived.JoinedTies
import Derived.KernelRfl
namespace Go.Proofs.Ytaegfjolemehaaa
/- THE CELL 'sum', in the pinned program and in every row, IS THE sha256 OF THE DUMP (.gsa) THAT YtaegfjolemehaaaProg.lean LOADS. Nothing in Lean hashes anything: it is a label: what it is worth is what the hold of that sum in a sandbox is worth. -/
noncomputable def Try.pinned : Pinned := { name := "ytaegfjolemehaaa", sum := "5d64c76970f71a3c0ddfe20ac7f697cdb5b7791aa9f611528e830994b90f9b7f", checked := Try.checked }
namespace Rows
def none {H : Type} : Left H := { results := [], args := [] }

/-- 'chapmanlaw04.RunsMatchesReference': WHATEVER THE INPUT: true; the input reads as it did. -/
def runsMatchesReferenceSpec : ChangeSpec := { name := "runsMatchesReference", fn := fun _ => fun
  | [d1, d2, d3] => { results := [.lit (.bool true)], args := [d1, d2, d3] }
  | _ => none }
def runsMatchesReferenceRow : OpenClaim := { program := "ytaegfjolemehaaa", sum := "5d64c76970f71a3c0ddfe20ac7f697cdb5b7791aa9f611528e830994b90f9b7f", func := "chapman/chapmanlaw04.RunsMatchesReference", spec := "runsMatchesReference", unfollowed := true, recurses := true, apart := false }
def RunsMatchesReferenceSaid : Prop := runsMatchesReferenceRow.holds Try.pinned (OpenSpec.ofChange runsMatchesReferenceSpec)

/-- ITS FALSE NEIGHBOUR: 'it returns false'. Refute it at one input. -/
def runsMatchesReferenceWrong : ChangeSpec := { name := "runsMatchesReference", fn := fun _ => fun
  | [d1, d2, d3] => { results := [.lit (.bool false)], args := [d1, d2, d3] }
  | _ => none }
def RunsMatchesReferenceWrongFalsely : Prop := runsMatchesReferenceRow.holds Try.pinned (OpenSpec.ofChange runsMatchesReferenceWrong)

/-- 'chapmanlaw04.RunsExpand': WHATEVER THE INPUT: true; the input reads as it did. -/
def runsExpandSpec : ChangeSpec := { name := "runsExpand", fn := fun _ => fun
  | [d] => { results := [.lit (.bool true)], args := [d] }
  | _ => none }
def runsExpandRow : OpenClaim := { program := "ytaegfjolemehaaa", sum := "5d64c76970f71a3c0ddfe20ac7f697cdb5b7791aa9f611528e830994b90f9b7f", func := "chapman/chapmanlaw04.RunsExpand", spec := "runsExpand", unfollowed := true, recurses := true, apart := false }
def RunsExpandSaid : Prop := runsExpandRow.holds Try.pinned (OpenSpec.ofChange runsExpandSpec)

/-- ITS FALSE NEIGHBOUR: 'it returns false'. Refute it at one input. -/
def runsExpandWrong : ChangeSpec := { name := "runsExpand", fn := fun _ => fun
  | [d] => { results := [.lit (.bool false)], args := [d] }
  | _ => none }
def RunsExpandWrongFalsely : Prop := runsExpandRow.holds Try.pinned (OpenSpec.ofChange runsExpandWrong)

/-- 'chapmanlaw04.RunsDifferences': WHATEVER THE INPUT: true; the input reads as it did. -/
def runsDifferencesSpec : ChangeSpec := { name := "runsDifferences", fn := fun _ => fun
  | [d1, d2] => { results := [.lit (.bool true)], args := [d1, d2] }
  | _ => none }
def runsDifferencesRow : OpenClaim := { program := "ytaegfjolemehaaa", sum := "5d64c76970f71a3c0ddfe20ac7f697cdb5b7791aa9f611528e830994b90f9b7f", func := "chapman/chapmanlaw04.RunsDifferences", spec := "runsDifferences", unfollowed := true, recurses := true, apart := false }
def RunsDifferencesSaid : Prop := runsDifferencesRow.holds Try.pinned (OpenSpec.ofChange runsDifferencesSpec)

/-- ITS FALSE NEIGHBOUR: 'it returns false'. Refute it at one input. -/
def runsDifferencesWrong : ChangeSpec := { name := "runsDifferences", fn := fun _ => fun
  | [d1, d2] => { results := [.lit (.bool false)], args := [d1, d2] }
  | _ => none }
def RunsDifferencesWrongFalsely : Prop := runsDifferencesRow.holds Try.pinned (OpenSpec.ofChange runsDifferencesWrong)

/-- 'chapmanlaw04.RunsInverts': WHATEVER THE INPUT: true; the input reads as it did. -/
def runsInvertsSpec : ChangeSpec := { name := "runsInverts", fn := fun _ => fun
  | [d1, d2] => { results := [.lit (.bool true)], args := [d1, d2] }
  | _ => none }
def runsInvertsRow : OpenClaim := { program := "ytaegfjolemehaaa", sum := "5d64c76970f71a3c0ddfe20ac7f697cdb5b7791aa9f611528e830994b90f9b7f", func := "chapman/chapmanlaw04.RunsInverts", spec := "runsInverts", unfollowed := true, recurses := true, apart := false }
def RunsInvertsSaid : Prop := runsInvertsRow.holds Try.pinned (OpenSpec.ofChange runsInvertsSpec)

/-- ITS FALSE NEIGHBOUR: 'it returns false'. Refute it at one input. -/
def runsInvertsWrong : ChangeSpec := { name := "runsInverts", fn := fun _ => fun
  | [d1, d2] => { results := [.lit (.bool false)], args := [d1, d2] }
  | _ => none }
def RunsInvertsWrongFalsely : Prop := runsInvertsRow.holds Try.pinned (OpenSpec.ofChange runsInvertsWrong)

/-- 'chapmanlaw04.RunsLeast': WHATEVER THE INPUT: true; the input reads as it did. -/
def runsLeastSpec : ChangeSpec := { name := "runsLeast", fn := fun _ => fun
  | [d1, d2, d3] => { results := [.lit (.bool true)], args := [d1, d2, d3] }
  | _ => none }
def runsLeastRow : OpenClaim := { program := "ytaegfjolemehaaa", sum := "5d64c76970f71a3c0ddfe20ac7f697cdb5b7791aa9f611528e830994b90f9b7f", func := "chapman/chapmanlaw04.RunsLeast", spec := "runsLeast", unfollowed := true, recurses := true, apart := false }
def RunsLeastSaid : Prop := runsLeastRow.holds Try.pinned (OpenSpec.ofChange runsLeastSpec)

/-- ITS FALSE NEIGHBOUR: 'it returns false'. Refute it at one input. -/
def runsLeastWrong : ChangeSpec := { name := "runsLeast", fn := fun _ => fun
  | [d1, d2, d3] => { results := [.lit (.bool false)], args := [d1, d2, d3] }
  | _ => none }
def RunsLeastWrongFalsely : Prop := runsLeastRow.holds Try.pinned (OpenSpec.ofChange runsLeastWrong)

/-- 'chapmanlaw04.RunsShort': WHATEVER THE INPUT: true; the input reads as it did. -/
def runsShortSpec : ChangeSpec := { name := "runsShort", fn := fun _ => fun
  | [d1, d2] => { results := [.lit (.bool true)], args := [d1, d2] }
  | _ => none }
def runsShortRow : OpenClaim := { program := "ytaegfjolemehaaa", sum := "5d64c76970f71a3c0ddfe20ac7f697cdb5b7791aa9f611528e830994b90f9b7f", func := "chapman/chapmanlaw04.RunsShort", spec := "runsShort", unfollowed := true, recurses := true, apart := false }
def RunsShortSaid : Prop := runsShortRow.holds Try.pinned (OpenSpec.ofChange runsShortSpec)

/-- ITS FALSE NEIGHBOUR: 'it returns false'. Refute it at one input. -/
def runsShortWrong : ChangeSpec := { name := "runsShort", fn := fun _ => fun
  | [d1, d2] => { results := [.lit (.bool false)], args := [d1, d2] }
  | _ => none }
def RunsShortWrongFalsely : Prop := runsShortRow.holds Try.pinned (OpenSpec.ofChange runsShortWrong)

/- THE SECOND FORM. 'bulk': how many values and letters a reading holds, each counted each time it is reached (what is shared counts as often as it is met; a slice's spare places count too). A statement '..UptoSaid' is the law's where the arguments, and the package variables that the reading takes, are together of bulk at most 1048576: NARROWER than '..Said'. Prove '..Said' where nothing that the law and all that it calls make is longer than what came in: it says more and counts as full. Else prove '..UptoSaid'. A law counts once. -/
mutual
def uptoBulk {H : Type} : DataW H → Nat
  | .lit (.string bytes) => bytes.length + 1
  | .lit _ => 1
  | .nil => 1
  | .ptr d => uptoBulk d + 1
  | .slice elems spare => uptoBulkAll elems + uptoBulkAll spare + 1
  | .agg parts => uptoBulkAll parts + 1
  | .iface _ d => uptoBulk d + 1
  | .map entries => uptoBulkEntries entries + 1
  | .held _ => 1
def uptoBulkAll {H : Type} : List (DataW H) → Nat
  | [] => 0
  | d :: r => uptoBulk d + uptoBulkAll r
def uptoBulkEntries {H : Type} : List (Lit × DataW H) → Nat
  | [] => 0
  | x :: r => uptoBulkEntry x + uptoBulkEntries r
def uptoBulkEntry {H : Type} : Lit × DataW H → Nat
  | (.string bytes, d) => bytes.length + uptoBulk d + 1
  | (_, d) => uptoBulk d + 1
 end
def uptoSmall : (H : Type) → List (DataW H) → Bool := fun _ ds => decide (uptoBulkAll ds ≤ 1048576)
def OpenSpec.upto (s : _root_.Go.ChangeSpec) : _root_.Go.OpenSpec := { _root_.Go.OpenSpec.ofChange s with cond := some uptoSmall }

/-- 'chapmanlaw04.RunsMatchesReference', WHERE WHAT IT READS IS OF BULK AT MOST 1048576: true; the input reads as it did. -/
def runsMatchesReferenceUptoRow : OpenClaim := { program := "ytaegfjolemehaaa", sum := "5d64c76970f71a3c0ddfe20ac7f697cdb5b7791aa9f611528e830994b90f9b7f", func := "chapman/chapmanlaw04.RunsMatchesReference", spec := "runsMatchesReference", unfollowed := true, recurses := true, apart := false, narrowed := true }
def RunsMatchesReferenceUptoSaid : Prop := runsMatchesReferenceUptoRow.holds Try.pinned (OpenSpec.upto runsMatchesReferenceSpec)

/-- 'chapmanlaw04.RunsExpand', WHERE WHAT IT READS IS OF BULK AT MOST 1048576: true; the input reads as it did. -/
def runsExpandUptoRow : OpenClaim := { program := "ytaegfjolemehaaa", sum := "5d64c76970f71a3c0ddfe20ac7f697cdb5b7791aa9f611528e830994b90f9b7f", func := "chapman/chapmanlaw04.RunsExpand", spec := "runsExpand", unfollowed := true, recurses := true, apart := false, narrowed := true }
def RunsExpandUptoSaid : Prop := runsExpandUptoRow.holds Try.pinned (OpenSpec.upto runsExpandSpec)

/-- 'chapmanlaw04.RunsDifferences', WHERE WHAT IT READS IS OF BULK AT MOST 1048576: true; the input reads as it did. -/
def runsDifferencesUptoRow : OpenClaim := { program := "ytaegfjolemehaaa", sum := "5d64c76970f71a3c0ddfe20ac7f697cdb5b7791aa9f611528e830994b90f9b7f", func := "chapman/chapmanlaw04.RunsDifferences", spec := "runsDifferences", unfollowed := true, recurses := true, apart := false, narrowed := true }
def RunsDifferencesUptoSaid : Prop := runsDifferencesUptoRow.holds Try.pinned (OpenSpec.upto runsDifferencesSpec)

/-- 'chapmanlaw04.RunsInverts', WHERE WHAT IT READS IS OF BULK AT MOST 1048576: true; the input reads as it did. -/
def runsInvertsUptoRow : OpenClaim := { program := "ytaegfjolemehaaa", sum := "5d64c76970f71a3c0ddfe20ac7f697cdb5b7791aa9f611528e830994b90f9b7f", func := "chapman/chapmanlaw04.RunsInverts", spec := "runsInverts", unfollowed := true, recurses := true, apart := false, narrowed := true }
def RunsInvertsUptoSaid : Prop := runsInvertsUptoRow.holds Try.pinned (OpenSpec.upto runsInvertsSpec)

/-- 'chapmanlaw04.RunsLeast', WHERE WHAT IT READS IS OF BULK AT MOST 1048576: true; the input reads as it did. -/
def runsLeastUptoRow : OpenClaim := { program := "ytaegfjolemehaaa", sum := "5d64c76970f71a3c0ddfe20ac7f697cdb5b7791aa9f611528e830994b90f9b7f", func := "chapman/chapmanlaw04.RunsLeast", spec := "runsLeast", unfollowed := true, recurses := true, apart := false, narrowed := true }
def RunsLeastUptoSaid : Prop := runsLeastUptoRow.holds Try.pinned (OpenSpec.upto runsLeastSpec)

/-- 'chapmanlaw04.RunsShort', WHERE WHAT IT READS IS OF BULK AT MOST 1048576: true; the input reads as it did. -/
def runsShortUptoRow : OpenClaim := { program := "ytaegfjolemehaaa", sum := "5d64c76970f71a3c0ddfe20ac7f697cdb5b7791aa9f611528e830994b90f9b7f", func := "chapman/chapmanlaw04.RunsShort", spec := "runsShort", unfollowed := true, recurses := true, apart := false, narrowed := true }
def RunsShortUptoSaid : Prop := runsShortUptoRow.holds Try.pinned (OpenSpec.upto runsShortSpec)

end Rows
end Go.Proofs.Ytaegfjolemehaaa
