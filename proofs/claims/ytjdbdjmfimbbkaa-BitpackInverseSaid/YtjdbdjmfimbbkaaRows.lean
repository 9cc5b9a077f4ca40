/-
  No cell of these rows narrows 'for every input' (looked for: loops, veiled, ifaces, maps, wideKeys, modest, calm, conditions, laid).
  DERIVED. THE GIVEN ROWS OF THIS SEAT. 6 by the template 'for every input the law returns true; each argument reads behind the call as it read before'; 0 by the template 'total and deterministic' (their statements: YtjdbdjmfimbbkaaTotals.lean).
  GIVEN WITH THE SEED: the statements are not yours to turn. If you find one false, say at which input.
  Laid BY PROGRAM, IN A SANDBOX (cutbox-rows.mjs): the forced cells as the released guide's own fill.sh prints them over the translation f67bf2597cc303f4… (all of the seat's roots in one cut). By AI agents, Wed Nov 11 2026. No macro, syntax, notation, axiom, sorry.
-/
import Derived.Test.YtjdbdjmfimbbkaaChecked
import GoSem.Claim
import GoSem.ClaimJoined
import GoSem.ClaimMapViews
import Derived.JoinedTies
import Derived.KernelRfl
namespace Go.Proofs.Ytjdbdjmfimbbkaa
/- THE CELL 'sum', in the pinned program and in every row, IS THE sha256 OF THE DUMP (.gsa) THAT YtjdbdjmfimbbkaaProg.lean LOADS. Nothing in Lean hashes anything: it is a label: what it is worth is what the hold of that sum in a sandbox is worth. -/
noncomputable def Try.pinned : Pinned := { name := "ytjdbdjmfimbbkaa", sum := "f67bf2597cc303f4c4f9d14b8dace70fc1b9faf5480d63ae37f48ea15e4f3887", checked := Try.checked }
namespace Rows
def none {H : Type} : Left H := { results := [], args := [] }

/-- 'chapmanlaw03.BitpackMatchesReference': WHATEVER THE INPUT: true; the input reads as it did. -/
def bitpackMatchesReferenceSpec : ChangeSpec := { name := "bitpackMatchesReference", fn := fun _ => fun
  | [d1, d2, d3] => { results := [.lit (.bool true)], args := [d1, d2, d3] }
  | _ => none }
def bitpackMatchesReferenceRow : OpenClaim := { program := "ytjdbdjmfimbbkaa", sum := "f67bf2597cc303f4c4f9d14b8dace70fc1b9faf5480d63ae37f48ea15e4f3887", func := "chapman/chapmanlaw03.BitpackMatchesReference", spec := "bitpackMatchesReference", unfollowed := true, recurses := true, apart := false }
def BitpackMatchesReferenceSaid : Prop := bitpackMatchesReferenceRow.holds Try.pinned (OpenSpec.ofChange bitpackMatchesReferenceSpec)

/-- ITS FALSE NEIGHBOUR: 'it returns false'. Refute it at one input. -/
def bitpackMatchesReferenceWrong : ChangeSpec := { name := "bitpackMatchesReference", fn := fun _ => fun
  | [d1, d2, d3] => { results := [.lit (.bool false)], args := [d1, d2, d3] }
  | _ => none }
def BitpackMatchesReferenceWrongFalsely : Prop := bitpackMatchesReferenceRow.holds Try.pinned (OpenSpec.ofChange bitpackMatchesReferenceWrong)

/-- 'chapmanlaw03.BitpackInverse': WHATEVER THE INPUT: true; the input reads as it did. -/
def bitpackInverseSpec : ChangeSpec := { name := "bitpackInverse", fn := fun _ => fun
  | [d1, d2] => { results := [.lit (.bool true)], args := [d1, d2] }
  | _ => none }
def bitpackInverseRow : OpenClaim := { program := "ytjdbdjmfimbbkaa", sum := "f67bf2597cc303f4c4f9d14b8dace70fc1b9faf5480d63ae37f48ea15e4f3887", func := "chapman/chapmanlaw03.BitpackInverse", spec := "bitpackInverse", unfollowed := true, recurses := true, apart := false }
def BitpackInverseSaid : Prop := bitpackInverseRow.holds Try.pinned (OpenSpec.ofChange bitpackInverseSpec)

/-- ITS FALSE NEIGHBOUR: 'it returns false'. Refute it at one input. -/
def bitpackInverseWrong : ChangeSpec := { name := "bitpackInverse", fn := fun _ => fun
  | [d1, d2] => { results := [.lit (.bool false)], args := [d1, d2] }
  | _ => none }
def BitpackInverseWrongFalsely : Prop := bitpackInverseRow.holds Try.pinned (OpenSpec.ofChange bitpackInverseWrong)

/-- 'chapmanlaw03.BitpackCanonical': WHATEVER THE INPUT: true; the input reads as it did. -/
def bitpackCanonicalSpec : ChangeSpec := { name := "bitpackCanonical", fn := fun _ => fun
  | [d] => { results := [.lit (.bool true)], args := [d] }
  | _ => none }
def bitpackCanonicalRow : OpenClaim := { program := "ytjdbdjmfimbbkaa", sum := "f67bf2597cc303f4c4f9d14b8dace70fc1b9faf5480d63ae37f48ea15e4f3887", func := "chapman/chapmanlaw03.BitpackCanonical", spec := "bitpackCanonical", unfollowed := true, recurses := true, apart := false }
def BitpackCanonicalSaid : Prop := bitpackCanonicalRow.holds Try.pinned (OpenSpec.ofChange bitpackCanonicalSpec)

/-- ITS FALSE NEIGHBOUR: 'it returns false'. Refute it at one input. -/
def bitpackCanonicalWrong : ChangeSpec := { name := "bitpackCanonical", fn := fun _ => fun
  | [d] => { results := [.lit (.bool false)], args := [d] }
  | _ => none }
def BitpackCanonicalWrongFalsely : Prop := bitpackCanonicalRow.holds Try.pinned (OpenSpec.ofChange bitpackCanonicalWrong)

/-- 'chapmanlaw03.BitpackCodes': WHATEVER THE INPUT: true; the input reads as it did. -/
def bitpackCodesSpec : ChangeSpec := { name := "bitpackCodes", fn := fun _ => fun
  | [d1, d2, d3] => { results := [.lit (.bool true)], args := [d1, d2, d3] }
  | _ => none }
def bitpackCodesRow : OpenClaim := { program := "ytjdbdjmfimbbkaa", sum := "f67bf2597cc303f4c4f9d14b8dace70fc1b9faf5480d63ae37f48ea15e4f3887", func := "chapman/chapmanlaw03.BitpackCodes", spec := "bitpackCodes", unfollowed := true, recurses := true, apart := false }
def BitpackCodesSaid : Prop := bitpackCodesRow.holds Try.pinned (OpenSpec.ofChange bitpackCodesSpec)

/-- ITS FALSE NEIGHBOUR: 'it returns false'. Refute it at one input. -/
def bitpackCodesWrong : ChangeSpec := { name := "bitpackCodes", fn := fun _ => fun
  | [d1, d2, d3] => { results := [.lit (.bool false)], args := [d1, d2, d3] }
  | _ => none }
def BitpackCodesWrongFalsely : Prop := bitpackCodesRow.holds Try.pinned (OpenSpec.ofChange bitpackCodesWrong)

/-- 'chapmanlaw03.BitpackShort': WHATEVER THE INPUT: true; the input reads as it did. -/
def bitpackShortSpec : ChangeSpec := { name := "bitpackShort", fn := fun _ => fun
  | [d1, d2] => { results := [.lit (.bool true)], args := [d1, d2] }
  | _ => none }
def bitpackShortRow : OpenClaim := { program := "ytjdbdjmfimbbkaa", sum := "f67bf2597cc303f4c4f9d14b8dace70fc1b9faf5480d63ae37f48ea15e4f3887", func := "chapman/chapmanlaw03.BitpackShort", spec := "bitpackShort", unfollowed := true, recurses := true, apart := false }
def BitpackShortSaid : Prop := bitpackShortRow.holds Try.pinned (OpenSpec.ofChange bitpackShortSpec)

/-- ITS FALSE NEIGHBOUR: 'it returns false'. Refute it at one input. -/
def bitpackShortWrong : ChangeSpec := { name := "bitpackShort", fn := fun _ => fun
  | [d1, d2] => { results := [.lit (.bool false)], args := [d1, d2] }
  | _ => none }
def BitpackShortWrongFalsely : Prop := bitpackShortRow.holds Try.pinned (OpenSpec.ofChange bitpackShortWrong)

/-- 'chapmanlaw03.BitpackTranslates': WHATEVER THE INPUT: true; the input reads as it did. -/
def bitpackTranslatesSpec : ChangeSpec := { name := "bitpackTranslates", fn := fun _ => fun
  | [d1, d2] => { results := [.lit (.bool true)], args := [d1, d2] }
  | _ => none }
def bitpackTranslatesRow : OpenClaim := { program := "ytjdbdjmfimbbkaa", sum := "f67bf2597cc303f4c4f9d14b8dace70fc1b9faf5480d63ae37f48ea15e4f3887", func := "chapman/chapmanlaw03.BitpackTranslates", spec := "bitpackTranslates", unfollowed := true, recurses := true, apart := false }
def BitpackTranslatesSaid : Prop := bitpackTranslatesRow.holds Try.pinned (OpenSpec.ofChange bitpackTranslatesSpec)

/-- ITS FALSE NEIGHBOUR: 'it returns false'. Refute it at one input. -/
def bitpackTranslatesWrong : ChangeSpec := { name := "bitpackTranslates", fn := fun _ => fun
  | [d1, d2] => { results := [.lit (.bool false)], args := [d1, d2] }
  | _ => none }
def BitpackTranslatesWrongFalsely : Prop := bitpackTranslatesRow.holds Try.pinned (OpenSpec.ofChange bitpackTranslatesWrong)

/- THE SECOND FORM. 'bulk': how many values and letters a reading holds, each counted each time it is reached (what is shared counts as often as it is met; a slice's spare places count too). A statement '..UptoSaid' is the law's where the arguments, and the package variables that the reading takes, are together of bulk at most 1048576: NARROWER than '..Said'. Prove '..Said' where nothing that the law and all that it calls make is longer than what came in: it says more and counts as full. Else prove '..UptoSaid'. A law counts once. -/
mutual
def uptoBulk {H : Type} : DataW H → Nat
  | .lit (.string bytes) => bytes.length + 1
  | .lit _ => 1
  | .nil => 1
  | .ptr d => uptoBulk d + 1
  | .slice elems spare => uptoBulkAll elems + uptoBulkAll spare + 1
  | .agg parts => uptoBulkAll parts + 1
  | .iface _ d => uptoBulk d + 1
  | .map entries => uptoBulkEntries entries + 1
  | .held _ => 1
def uptoBulkAll {H : Type} : List (DataW H) → Nat
  | [] => 0
  | d :: r => uptoBulk d + uptoBulkAll r
def uptoBulkEntries {H : Type} : List (Lit × DataW H) → Nat
  | [] => 0
  | x :: r => uptoBulkEntry x + uptoBulkEntries r
def uptoBulkEntry {H : Type} : Lit × DataW H → Nat
  | (.string bytes, d) => bytes.length + uptoBulk d + 1
  | (_, d) => uptoBulk d + 1
 end
def uptoSmall : (H : Type) → List (DataW H) → Bool := fun _ ds => decide (uptoBulkAll ds ≤ 1048576)
def OpenSpec.upto (s : _root_.Go.ChangeSpec) : _root_.Go.OpenSpec := { _root_.Go.OpenSpec.ofChange s with cond := some uptoSmall }

/-- 'chapmanlaw03.BitpackMatchesReference', WHERE WHAT IT READS IS OF BULK AT MOST 1048576: true; the input reads as it did. -/
def bitpackMatchesReferenceUptoRow : OpenClaim := { program := "ytjdbdjmfimbbkaa", sum := "f67bf2597cc303f4c4f9d14b8dace70fc1b9faf5480d63ae37f48ea15e4f3887", func := "chapman/chapmanlaw03.BitpackMatchesReference", spec := "bitpackMatchesReference", unfollowed := true, recurses := true, apart := false, narrowed := true }
def BitpackMatchesReferenceUptoSaid : Prop := bitpackMatchesReferenceUptoRow.holds Try.pinned (OpenSpec.upto bitpackMatchesReferenceSpec)

/-- 'chapmanlaw03.BitpackInverse', WHERE WHAT IT READS IS OF BULK AT MOST 1048576: true; the input reads as it did. -/
def bitpackInverseUptoRow : OpenClaim := { program := "ytjdbdjmfimbbkaa", sum := "f67bf2597cc303f4c4f9d14b8dace70fc1b9faf5480d63ae37f48ea15e4f3887", func := "chapman/chapmanlaw03.BitpackInverse", spec := "bitpackInverse", unfollowed := true, recurses := true, apart := false, narrowed := true }
def BitpackInverseUptoSaid : Prop := bitpackInverseUptoRow.holds Try.pinned (OpenSpec.upto bitpackInverseSpec)

/-- 'chapmanlaw03.BitpackCanonical', WHERE WHAT IT READS IS OF BULK AT MOST 1048576: true; the input reads as it did. -/
def bitpackCanonicalUptoRow : OpenClaim := { program := "ytjdbdjmfimbbkaa", sum := "f67bf2597cc303f4c4f9d14b8dace70fc1b9faf5480d63ae37f48ea15e4f3887", func := "chapman/chapmanlaw03.BitpackCanonical", spec := "bitpackCanonical", unfollowed := true, recurses := true, apart := false, narrowed := true }
def BitpackCanonicalUptoSaid : Prop := bitpackCanonicalUptoRow.holds Try.pinned (OpenSpec.upto bitpackCanonicalSpec)

/-- 'chapmanlaw03.BitpackCodes', WHERE WHAT IT READS IS OF BULK AT MOST 1048576: true; the input reads as it did. -/
def bitpackCodesUptoRow : OpenClaim := { program := "ytjdbdjmfimbbkaa", sum := "f67bf2597cc303f4c4f9d14b8dace70fc1b9faf5480d63ae37f48ea15e4f3887", func := "chapman/chapmanlaw03.BitpackCodes", spec := "bitpackCodes", unfollowed := true, recurses := true, apart := false, narrowed := true }
def BitpackCodesUptoSaid : Prop := bitpackCodesUptoRow.holds Try.pinned (OpenSpec.upto bitpackCodesSpec)

/-- 'chapmanlaw03.BitpackShort', WHERE WHAT IT READS IS OF BULK AT MOST 1048576: true; the input reads as it did. -/
def bitpackShortUptoRow : OpenClaim := { program := "ytjdbdjmfimbbkaa", sum := "f67bf2597cc303f4c4f9d14b8dace70fc1b9faf5480d63ae37f48ea15e4f3887", func := "chapman/chapmanlaw03.BitpackShort", spec := "bitpackShort", unfollowed := true, recurses := true, apart := false, narrowed := true }
def BitpackShortUptoSaid : Prop := bitpackShortUptoRow.holds Try.pinned (OpenSpec.upto bitpackShortSpec)

/-- 'chapmanlaw03.BitpackTranslates', WHERE WHAT IT READS IS OF BULK AT MOST 1048576: true; the input reads as it did. -/
def bitpackTranslatesUptoRow : OpenClaim := { program := "ytjdbdjmfimbbkaa", sum := "f67bf2597cc303f4c4f9d14b8dace70fc1b9faf5480d63ae37f48ea15e4f3887", func := "chapman/chapmanlaw03.BitpackTranslates", spec := "bitpackTranslates", unfollowed := true, recurses := true, apart := false, narrowed := true }
def BitpackTranslatesUptoSaid : Prop := bitpackTranslatesUptoRow.holds Try.pinned (OpenSpec.upto bitpackTranslatesSpec)

end Rows
end Go.Proofs.Ytjdbdjmfimbbkaa
