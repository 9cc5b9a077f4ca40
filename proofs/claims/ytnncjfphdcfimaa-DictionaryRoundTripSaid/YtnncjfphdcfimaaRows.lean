/-
  No cell of these rows narrows 'for every input' (looked for: loops, veiled, ifaces, maps, wideKeys, modest, calm, conditions, laid).
  DERIVED. THE GIVEN ROWS OF THIS SEAT. 6 by the template 'for every input the law returns true; each argument reads behind the call as it read before'; 0 by the template 'total and deterministic' (their statements: YtnncjfphdcfimaaTotals.lean).
  GIVEN WITH THE SEED: the statements are not yours to turn. If you find one false, say at which input.
  Laid BY PROGRAM, IN A SANDBOX (cutbox-rows.mjs): the forced cells as the released guide's own fill.sh prints them over the translation 185ade5571046045… (all of the seat's roots in one cut). By AI agents, Wed Nov 11 2026. No macro, syntax, notation, axiom, sorry.
-/
import Derived.Test.YtnncjfphdcfimaaChecked
import GoSem.Claim
import GoSem.ClaimJoined
import GoSem.ClaimMapViews
import Derived.JoinedTies
import Derived.KernelRfl
namespace Go.Proofs.Ytnncjfphdcfimaa
/- THE CELL 'sum', in the pinned program and in every row, IS THE sha256 OF THE DUMP (.gsa) THAT YtnncjfphdcfimaaProg.lean LOADS. Nothing in Lean hashes anything: it is a label: what it is worth is what the hold of that sum in a sandbox is worth. -/
noncomputable def Try.pinned : Pinned := { name := "ytnncjfphdcfimaa", sum := "185ade5571046045ed0364f60f379fac7ed431fc6c6450b0ef955b377215d83b", checked := Try.checked }
namespace Rows
def none {H : Type} : Left H := { results := [], args := [] }

/-- 'chapmanlaw05.DictionaryMatchesReference': WHATEVER THE INPUT: true; the input reads as it did. -/
def dictionaryMatchesReferenceSpec : ChangeSpec := { name := "dictionaryMatchesReference", fn := fun _ => fun
  | [d1, d2] => { results := [.lit (.bool true)], args := [d1, d2] }
  | _ => none }
def dictionaryMatchesReferenceRow : OpenClaim := { program := "ytnncjfphdcfimaa", sum := "185ade5571046045ed0364f60f379fac7ed431fc6c6450b0ef955b377215d83b", func := "chapman/chapmanlaw05.DictionaryMatchesReference", spec := "dictionaryMatchesReference", unfollowed := true, recurses := true, apart := false }
def DictionaryMatchesReferenceSaid : Prop := dictionaryMatchesReferenceRow.holds Try.pinned (OpenSpec.ofChange dictionaryMatchesReferenceSpec)

/-- ITS FALSE NEIGHBOUR: 'it returns false'. Refute it at one input. -/
def dictionaryMatchesReferenceWrong : ChangeSpec := { name := "dictionaryMatchesReference", fn := fun _ => fun
  | [d1, d2] => { results := [.lit (.bool false)], args := [d1, d2] }
  | _ => none }
def DictionaryMatchesReferenceWrongFalsely : Prop := dictionaryMatchesReferenceRow.holds Try.pinned (OpenSpec.ofChange dictionaryMatchesReferenceWrong)

/-- 'chapmanlaw05.DictionaryRoundTrip': WHATEVER THE INPUT: true; the input reads as it did. -/
def dictionaryRoundTripSpec : ChangeSpec := { name := "dictionaryRoundTrip", fn := fun _ => fun
  | [d1, d2] => { results := [.lit (.bool true)], args := [d1, d2] }
  | _ => none }
def dictionaryRoundTripRow : OpenClaim := { program := "ytnncjfphdcfimaa", sum := "185ade5571046045ed0364f60f379fac7ed431fc6c6450b0ef955b377215d83b", func := "chapman/chapmanlaw05.DictionaryRoundTrip", spec := "dictionaryRoundTrip", unfollowed := true, recurses := true, apart := false }
def DictionaryRoundTripSaid : Prop := dictionaryRoundTripRow.holds Try.pinned (OpenSpec.ofChange dictionaryRoundTripSpec)

/-- ITS FALSE NEIGHBOUR: 'it returns false'. Refute it at one input. -/
def dictionaryRoundTripWrong : ChangeSpec := { name := "dictionaryRoundTrip", fn := fun _ => fun
  | [d1, d2] => { results := [.lit (.bool false)], args := [d1, d2] }
  | _ => none }
def DictionaryRoundTripWrongFalsely : Prop := dictionaryRoundTripRow.holds Try.pinned (OpenSpec.ofChange dictionaryRoundTripWrong)

/-- 'chapmanlaw05.DictionaryCanonical': WHATEVER THE INPUT: true; the input reads as it did. -/
def dictionaryCanonicalSpec : ChangeSpec := { name := "dictionaryCanonical", fn := fun _ => fun
  | [d] => { results := [.lit (.bool true)], args := [d] }
  | _ => none }
def dictionaryCanonicalRow : OpenClaim := { program := "ytnncjfphdcfimaa", sum := "185ade5571046045ed0364f60f379fac7ed431fc6c6450b0ef955b377215d83b", func := "chapman/chapmanlaw05.DictionaryCanonical", spec := "dictionaryCanonical", unfollowed := true, recurses := true, apart := false }
def DictionaryCanonicalSaid : Prop := dictionaryCanonicalRow.holds Try.pinned (OpenSpec.ofChange dictionaryCanonicalSpec)

/-- ITS FALSE NEIGHBOUR: 'it returns false'. Refute it at one input. -/
def dictionaryCanonicalWrong : ChangeSpec := { name := "dictionaryCanonical", fn := fun _ => fun
  | [d] => { results := [.lit (.bool false)], args := [d] }
  | _ => none }
def DictionaryCanonicalWrongFalsely : Prop := dictionaryCanonicalRow.holds Try.pinned (OpenSpec.ofChange dictionaryCanonicalWrong)

/-- 'chapmanlaw05.DictionaryCodes': WHATEVER THE INPUT: true; the input reads as it did. -/
def dictionaryCodesSpec : ChangeSpec := { name := "dictionaryCodes", fn := fun _ => fun
  | [d1, d2] => { results := [.lit (.bool true)], args := [d1, d2] }
  | _ => none }
def dictionaryCodesRow : OpenClaim := { program := "ytnncjfphdcfimaa", sum := "185ade5571046045ed0364f60f379fac7ed431fc6c6450b0ef955b377215d83b", func := "chapman/chapmanlaw05.DictionaryCodes", spec := "dictionaryCodes", unfollowed := true, recurses := true, apart := false }
def DictionaryCodesSaid : Prop := dictionaryCodesRow.holds Try.pinned (OpenSpec.ofChange dictionaryCodesSpec)

/-- ITS FALSE NEIGHBOUR: 'it returns false'. Refute it at one input. -/
def dictionaryCodesWrong : ChangeSpec := { name := "dictionaryCodes", fn := fun _ => fun
  | [d1, d2] => { results := [.lit (.bool false)], args := [d1, d2] }
  | _ => none }
def DictionaryCodesWrongFalsely : Prop := dictionaryCodesRow.holds Try.pinned (OpenSpec.ofChange dictionaryCodesWrong)

/-- 'chapmanlaw05.DictionarySets': WHATEVER THE INPUT: true; the input reads as it did. -/
def dictionarySetsSpec : ChangeSpec := { name := "dictionarySets", fn := fun _ => fun
  | [d1, d2] => { results := [.lit (.bool true)], args := [d1, d2] }
  | _ => none }
def dictionarySetsRow : OpenClaim := { program := "ytnncjfphdcfimaa", sum := "185ade5571046045ed0364f60f379fac7ed431fc6c6450b0ef955b377215d83b", func := "chapman/chapmanlaw05.DictionarySets", spec := "dictionarySets", unfollowed := true, recurses := true, apart := false }
def DictionarySetsSaid : Prop := dictionarySetsRow.holds Try.pinned (OpenSpec.ofChange dictionarySetsSpec)

/-- ITS FALSE NEIGHBOUR: 'it returns false'. Refute it at one input. -/
def dictionarySetsWrong : ChangeSpec := { name := "dictionarySets", fn := fun _ => fun
  | [d1, d2] => { results := [.lit (.bool false)], args := [d1, d2] }
  | _ => none }
def DictionarySetsWrongFalsely : Prop := dictionarySetsRow.holds Try.pinned (OpenSpec.ofChange dictionarySetsWrong)

/-- 'chapmanlaw05.DictionaryTruncation': WHATEVER THE INPUT: true; the input reads as it did. -/
def dictionaryTruncationSpec : ChangeSpec := { name := "dictionaryTruncation", fn := fun _ => fun
  | [d1, d2] => { results := [.lit (.bool true)], args := [d1, d2] }
  | _ => none }
def dictionaryTruncationRow : OpenClaim := { program := "ytnncjfphdcfimaa", sum := "185ade5571046045ed0364f60f379fac7ed431fc6c6450b0ef955b377215d83b", func := "chapman/chapmanlaw05.DictionaryTruncation", spec := "dictionaryTruncation", unfollowed := true, recurses := true, apart := false }
def DictionaryTruncationSaid : Prop := dictionaryTruncationRow.holds Try.pinned (OpenSpec.ofChange dictionaryTruncationSpec)

/-- ITS FALSE NEIGHBOUR: 'it returns false'. Refute it at one input. -/
def dictionaryTruncationWrong : ChangeSpec := { name := "dictionaryTruncation", fn := fun _ => fun
  | [d1, d2] => { results := [.lit (.bool false)], args := [d1, d2] }
  | _ => none }
def DictionaryTruncationWrongFalsely : Prop := dictionaryTruncationRow.holds Try.pinned (OpenSpec.ofChange dictionaryTruncationWrong)

/- THE SECOND FORM. 'bulk': how many values and letters a reading holds, each counted each time it is reached (what is shared counts as often as it is met; a slice's spare places count too). A statement '..UptoSaid' is the law's where the arguments, and the package variables that the reading takes, are together of bulk at most 1048576: NARROWER than '..Said'. Prove '..Said' where nothing that the law and all that it calls make is longer than what came in: it says more and counts as full. Else prove '..UptoSaid'. A law counts once. -/
mutual
def uptoBulk {H : Type} : DataW H → Nat
  | .lit (.string bytes) => bytes.length + 1
  | .lit _ => 1
  | .nil => 1
  | .ptr d => uptoBulk d + 1
  | .slice elems spare => uptoBulkAll elems + uptoBulkAll spare + 1
  | .agg parts => uptoBulkAll parts + 1
  | .iface _ d => uptoBulk d + 1
  | .map entries => uptoBulkEntries entries + 1
  | .held _ => 1
def uptoBulkAll {H : Type} : List (DataW H) → Nat
  | [] => 0
  | d :: r => uptoBulk d + uptoBulkAll r
def uptoBulkEntries {H : Type} : List (Lit × DataW H) → Nat
  | [] => 0
  | x :: r => uptoBulkEntry x + uptoBulkEntries r
def uptoBulkEntry {H : Type} : Lit × DataW H → Nat
  | (.string bytes, d) => bytes.length + uptoBulk d + 1
  | (_, d) => uptoBulk d + 1
 end
def uptoSmall : (H : Type) → List (DataW H) → Bool := fun _ ds => decide (uptoBulkAll ds ≤ 1048576)
def OpenSpec.upto (s : _root_.Go.ChangeSpec) : _root_.Go.OpenSpec := { _root_.Go.OpenSpec.ofChange s with cond := some uptoSmall }

/-- 'chapmanlaw05.DictionaryMatchesReference', WHERE WHAT IT READS IS OF BULK AT MOST 1048576: true; the input reads as it did. -/
def dictionaryMatchesReferenceUptoRow : OpenClaim := { program := "ytnncjfphdcfimaa", sum := "185ade5571046045ed0364f60f379fac7ed431fc6c6450b0ef955b377215d83b", func := "chapman/chapmanlaw05.DictionaryMatchesReference", spec := "dictionaryMatchesReference", unfollowed := true, recurses := true, apart := false, narrowed := true }
def DictionaryMatchesReferenceUptoSaid : Prop := dictionaryMatchesReferenceUptoRow.holds Try.pinned (OpenSpec.upto dictionaryMatchesReferenceSpec)

/-- 'chapmanlaw05.DictionaryRoundTrip', WHERE WHAT IT READS IS OF BULK AT MOST 1048576: true; the input reads as it did. -/
def dictionaryRoundTripUptoRow : OpenClaim := { program := "ytnncjfphdcfimaa", sum := "185ade5571046045ed0364f60f379fac7ed431fc6c6450b0ef955b377215d83b", func := "chapman/chapmanlaw05.DictionaryRoundTrip", spec := "dictionaryRoundTrip", unfollowed := true, recurses := true, apart := false, narrowed := true }
def DictionaryRoundTripUptoSaid : Prop := dictionaryRoundTripUptoRow.holds Try.pinned (OpenSpec.upto dictionaryRoundTripSpec)

/-- 'chapmanlaw05.DictionaryCanonical', WHERE WHAT IT READS IS OF BULK AT MOST 1048576: true; the input reads as it did. -/
def dictionaryCanonicalUptoRow : OpenClaim := { program := "ytnncjfphdcfimaa", sum := "185ade5571046045ed0364f60f379fac7ed431fc6c6450b0ef955b377215d83b", func := "chapman/chapmanlaw05.DictionaryCanonical", spec := "dictionaryCanonical", unfollowed := true, recurses := true, apart := false, narrowed := true }
def DictionaryCanonicalUptoSaid : Prop := dictionaryCanonicalUptoRow.holds Try.pinned (OpenSpec.upto dictionaryCanonicalSpec)

/-- 'chapmanlaw05.DictionaryCodes', WHERE WHAT IT READS IS OF BULK AT MOST 1048576: true; the input reads as it did. -/
def dictionaryCodesUptoRow : OpenClaim := { program := "ytnncjfphdcfimaa", sum := "185ade5571046045ed0364f60f379fac7ed431fc6c6450b0ef955b377215d83b", func := "chapman/chapmanlaw05.DictionaryCodes", spec := "dictionaryCodes", unfollowed := true, recurses := true, apart := false, narrowed := true }
def DictionaryCodesUptoSaid : Prop := dictionaryCodesUptoRow.holds Try.pinned (OpenSpec.upto dictionaryCodesSpec)

/-- 'chapmanlaw05.DictionarySets', WHERE WHAT IT READS IS OF BULK AT MOST 1048576: true; the input reads as it did. -/
def dictionarySetsUptoRow : OpenClaim := { program := "ytnncjfphdcfimaa", sum := "185ade5571046045ed0364f60f379fac7ed431fc6c6450b0ef955b377215d83b", func := "chapman/chapmanlaw05.DictionarySets", spec := "dictionarySets", unfollowed := true, recurses := true, apart := false, narrowed := true }
def DictionarySetsUptoSaid : Prop := dictionarySetsUptoRow.holds Try.pinned (OpenSpec.upto dictionarySetsSpec)

/-- 'chapmanlaw05.DictionaryTruncation', WHERE WHAT IT READS IS OF BULK AT MOST 1048576: true; the input reads as it did. -/
def dictionaryTruncationUptoRow : OpenClaim := { program := "ytnncjfphdcfimaa", sum := "185ade5571046045ed0364f60f379fac7ed431fc6c6450b0ef955b377215d83b", func := "chapman/chapmanlaw05.DictionaryTruncation", spec := "dictionaryTruncation", unfollowed := true, recurses := true, apart := false, narrowed := true }
def DictionaryTruncationUptoSaid : Prop := dictionaryTruncationUptoRow.holds Try.pinned (OpenSpec.upto dictionaryTruncationSpec)

end Rows
end Go.Proofs.Ytnncjfphdcfimaa
