/-
  No cell of these rows narrows 'for every input' (looked for: loops, veiled, ifaces, maps, wideKeys, modest, calm, conditions, laid).
  DERIVED. THE GIVEN ROWS OF THIS SEAT. 6 by the template 'for every input the law returns true; each argument reads behind the call as it read before'; 0 by the template 'total and deterministic' (their statements: YtcmjfmofaligfaaTotals.lean).
  GIVEN WITH THE SEED: the statements are not yours to turn. If you find one false, say at which input.
  Laid BY PROGRAM, IN A SANDBOX (cutbox-rows.mjs): the forced cells as the released guide's own fill.sh prints them over the translation 65257d0ef9c82927… (all of the seat's roots in one cut). By AI agents, Wed Nov 11 2026. No macro, syntax, notation, axiom, sorry.
-/
import Derived.Test.YtcmjfmofaligfaaChecked
import GoSem.Claim
import GoSem.ClaimJoined
import GoSem.ClaimMapViews
import Derived.JoinedTies
import Derived.KernelRfl
namespace Go.Proofs.Ytcmjfmofaligfaa
/- THE CELL 'sum', in the pinned program and in every row, IS THE sha256 OF THE DUMP (.gsa) THAT YtcmjfmofaligfaaProg.lean LOADS. Nothing in Lean hashes anything: it is a label: what it is worth is what the hold of that sum in a sandbox is worth. -/
noncomputable def Try.pinned : Pinned := { name := "ytcmjfmofaligfaa", sum := "65257d0ef9c829278b2162e1694c387e621704249c7f4942fd8d31192367e2b1", checked := Try.checked }
namespace Rows
def none {H : Type} : Left H := { results := [], args := [] }

/-- 'chapmanlaw01.DigestMatchesReference': WHATEVER THE INPUT: true; the input reads as it did. -/
def digestMatchesReferenceSpec : ChangeSpec := { name := "digestMatchesReference", fn := fun _ => fun
  | [d1, d2, d3] => { results := [.lit (.bool true)], args := [d1, d2, d3] }
  | _ => none }
def digestMatchesReferenceRow : OpenClaim := { program := "ytcmjfmofaligfaa", sum := "65257d0ef9c829278b2162e1694c387e621704249c7f4942fd8d31192367e2b1", func := "chapman/chapmanlaw01.DigestMatchesReference", spec := "digestMatchesReference", unfollowed := true, recurses := true, apart := false }
def DigestMatchesReferenceSaid : Prop := digestMatchesReferenceRow.holds Try.pinned (OpenSpec.ofChange digestMatchesReferenceSpec)

/-- ITS FALSE NEIGHBOUR: 'it returns false'. Refute it at one input. -/
def digestMatchesReferenceWrong : ChangeSpec := { name := "digestMatchesReference", fn := fun _ => fun
  | [d1, d2, d3] => { results := [.lit (.bool false)], args := [d1, d2, d3] }
  | _ => none }
def DigestMatchesReferenceWrongFalsely : Prop := digestMatchesReferenceRow.holds Try.pinned (OpenSpec.ofChange digestMatchesReferenceWrong)

/-- 'chapmanlaw01.DigestOneChange': WHATEVER THE INPUT: true; the input reads as it did. -/
def digestOneChangeSpec : ChangeSpec := { name := "digestOneChange", fn := fun _ => fun
  | [d1, d2, d3] => { results := [.lit (.bool true)], args := [d1, d2, d3] }
  | _ => none }
def digestOneChangeRow : OpenClaim := { program := "ytcmjfmofaligfaa", sum := "65257d0ef9c829278b2162e1694c387e621704249c7f4942fd8d31192367e2b1", func := "chapman/chapmanlaw01.DigestOneChange", spec := "digestOneChange", unfollowed := true, recurses := true, apart := false }
def DigestOneChangeSaid : Prop := digestOneChangeRow.holds Try.pinned (OpenSpec.ofChange digestOneChangeSpec)

/-- ITS FALSE NEIGHBOUR: 'it returns false'. Refute it at one input. -/
def digestOneChangeWrong : ChangeSpec := { name := "digestOneChange", fn := fun _ => fun
  | [d1, d2, d3] => { results := [.lit (.bool false)], args := [d1, d2, d3] }
  | _ => none }
def DigestOneChangeWrongFalsely : Prop := digestOneChangeRow.holds Try.pinned (OpenSpec.ofChange digestOneChangeWrong)

/-- 'chapmanlaw01.DigestInverts': WHATEVER THE INPUT: true; the input reads as it did. -/
def digestInvertsSpec : ChangeSpec := { name := "digestInverts", fn := fun _ => fun
  | [d1, d2] => { results := [.lit (.bool true)], args := [d1, d2] }
  | _ => none }
def digestInvertsRow : OpenClaim := { program := "ytcmjfmofaligfaa", sum := "65257d0ef9c829278b2162e1694c387e621704249c7f4942fd8d31192367e2b1", func := "chapman/chapmanlaw01.DigestInverts", spec := "digestInverts", unfollowed := true, recurses := true, apart := false }
def DigestInvertsSaid : Prop := digestInvertsRow.holds Try.pinned (OpenSpec.ofChange digestInvertsSpec)

/-- ITS FALSE NEIGHBOUR: 'it returns false'. Refute it at one input. -/
def digestInvertsWrong : ChangeSpec := { name := "digestInverts", fn := fun _ => fun
  | [d1, d2] => { results := [.lit (.bool false)], args := [d1, d2] }
  | _ => none }
def DigestInvertsWrongFalsely : Prop := digestInvertsRow.holds Try.pinned (OpenSpec.ofChange digestInvertsWrong)

/-- 'chapmanlaw01.DigestPads': WHATEVER THE INPUT: true; the input reads as it did. -/
def digestPadsSpec : ChangeSpec := { name := "digestPads", fn := fun _ => fun
  | [d1, d2] => { results := [.lit (.bool true)], args := [d1, d2] }
  | _ => none }
def digestPadsRow : OpenClaim := { program := "ytcmjfmofaligfaa", sum := "65257d0ef9c829278b2162e1694c387e621704249c7f4942fd8d31192367e2b1", func := "chapman/chapmanlaw01.DigestPads", spec := "digestPads", unfollowed := true, recurses := true, apart := false }
def DigestPadsSaid : Prop := digestPadsRow.holds Try.pinned (OpenSpec.ofChange digestPadsSpec)

/-- ITS FALSE NEIGHBOUR: 'it returns false'. Refute it at one input. -/
def digestPadsWrong : ChangeSpec := { name := "digestPads", fn := fun _ => fun
  | [d1, d2] => { results := [.lit (.bool false)], args := [d1, d2] }
  | _ => none }
def DigestPadsWrongFalsely : Prop := digestPadsRow.holds Try.pinned (OpenSpec.ofChange digestPadsWrong)

/-- 'chapmanlaw01.DigestBuckets': WHATEVER THE INPUT: true; the input reads as it did. -/
def digestBucketsSpec : ChangeSpec := { name := "digestBuckets", fn := fun _ => fun
  | [d1, d2, d3] => { results := [.lit (.bool true)], args := [d1, d2, d3] }
  | _ => none }
def digestBucketsRow : OpenClaim := { program := "ytcmjfmofaligfaa", sum := "65257d0ef9c829278b2162e1694c387e621704249c7f4942fd8d31192367e2b1", func := "chapman/chapmanlaw01.DigestBuckets", spec := "digestBuckets", unfollowed := true, recurses := true, apart := false }
def DigestBucketsSaid : Prop := digestBucketsRow.holds Try.pinned (OpenSpec.ofChange digestBucketsSpec)

/-- ITS FALSE NEIGHBOUR: 'it returns false'. Refute it at one input. -/
def digestBucketsWrong : ChangeSpec := { name := "digestBuckets", fn := fun _ => fun
  | [d1, d2, d3] => { results := [.lit (.bool false)], args := [d1, d2, d3] }
  | _ => none }
def DigestBucketsWrongFalsely : Prop := digestBucketsRow.holds Try.pinned (OpenSpec.ofChange digestBucketsWrong)

/-- 'chapmanlaw01.DigestPrefixes': WHATEVER THE INPUT: true; the input reads as it did. -/
def digestPrefixesSpec : ChangeSpec := { name := "digestPrefixes", fn := fun _ => fun
  | [d1, d2, d3] => { results := [.lit (.bool true)], args := [d1, d2, d3] }
  | _ => none }
def digestPrefixesRow : OpenClaim := { program := "ytcmjfmofaligfaa", sum := "65257d0ef9c829278b2162e1694c387e621704249c7f4942fd8d31192367e2b1", func := "chapman/chapmanlaw01.DigestPrefixes", spec := "digestPrefixes", unfollowed := true, recurses := true, apart := false }
def DigestPrefixesSaid : Prop := digestPrefixesRow.holds Try.pinned (OpenSpec.ofChange digestPrefixesSpec)

/-- ITS FALSE NEIGHBOUR: 'it returns false'. Refute it at one input. -/
def digestPrefixesWrong : ChangeSpec := { name := "digestPrefixes", fn := fun _ => fun
  | [d1, d2, d3] => { results := [.lit (.bool false)], args := [d1, d2, d3] }
  | _ => none }
def DigestPrefixesWrongFalsely : Prop := digestPrefixesRow.holds Try.pinned (OpenSpec.ofChange digestPrefixesWrong)

/- THE SECOND FORM. 'bulk': how many values and letters a reading holds, each counted each time it is reached (what is shared counts as often as it is met; a slice's spare places count too). A statement '..UptoSaid' is the law's where the arguments, and the package variables that the reading takes, are together of bulk at most 1048576: NARROWER than '..Said'. Prove '..Said' where nothing that the law and all that it calls make is longer than what came in: it says more and counts as full. Else prove '..UptoSaid'. A law counts once. -/
mutual
def uptoBulk {H : Type} : DataW H → Nat
  | .lit (.string bytes) => bytes.length + 1
  | .lit _ => 1
  | .nil => 1
  | .ptr d => uptoBulk d + 1
  | .slice elems spare => uptoBulkAll elems + uptoBulkAll spare + 1
  | .agg parts => uptoBulkAll parts + 1
  | .iface _ d => uptoBulk d + 1
  | .map entries => uptoBulkEntries entries + 1
  | .held _ => 1
def uptoBulkAll {H : Type} : List (DataW H) → Nat
  | [] => 0
  | d :: r => uptoBulk d + uptoBulkAll r
def uptoBulkEntries {H : Type} : List (Lit × DataW H) → Nat
  | [] => 0
  | x :: r => uptoBulkEntry x + uptoBulkEntries r
def uptoBulkEntry {H : Type} : Lit × DataW H → Nat
  | (.string bytes, d) => bytes.length + uptoBulk d + 1
  | (_, d) => uptoBulk d + 1
 end
def uptoSmall : (H : Type) → List (DataW H) → Bool := fun _ ds => decide (uptoBulkAll ds ≤ 1048576)
def OpenSpec.upto (s : _root_.Go.ChangeSpec) : _root_.Go.OpenSpec := { _root_.Go.OpenSpec.ofChange s with cond := some uptoSmall }

/-- 'chapmanlaw01.DigestMatchesReference', WHERE WHAT IT READS IS OF BULK AT MOST 1048576: true; the input reads as it did. -/
def digestMatchesReferenceUptoRow : OpenClaim := { program := "ytcmjfmofaligfaa", sum := "65257d0ef9c829278b2162e1694c387e621704249c7f4942fd8d31192367e2b1", func := "chapman/chapmanlaw01.DigestMatchesReference", spec := "digestMatchesReference", unfollowed := true, recurses := true, apart := false, narrowed := true }
def DigestMatchesReferenceUptoSaid : Prop := digestMatchesReferenceUptoRow.holds Try.pinned (OpenSpec.upto digestMatchesReferenceSpec)

/-- 'chapmanlaw01.DigestOneChange', WHERE WHAT IT READS IS OF BULK AT MOST 1048576: true; the input reads as it did. -/
def digestOneChangeUptoRow : OpenClaim := { program := "ytcmjfmofaligfaa", sum := "65257d0ef9c829278b2162e1694c387e621704249c7f4942fd8d31192367e2b1", func := "chapman/chapmanlaw01.DigestOneChange", spec := "digestOneChange", unfollowed := true, recurses := true, apart := false, narrowed := true }
def DigestOneChangeUptoSaid : Prop := digestOneChangeUptoRow.holds Try.pinned (OpenSpec.upto digestOneChangeSpec)

/-- 'chapmanlaw01.DigestInverts', WHERE WHAT IT READS IS OF BULK AT MOST 1048576: true; the input reads as it did. -/
def digestInvertsUptoRow : OpenClaim := { program := "ytcmjfmofaligfaa", sum := "65257d0ef9c829278b2162e1694c387e621704249c7f4942fd8d31192367e2b1", func := "chapman/chapmanlaw01.DigestInverts", spec := "digestInverts", unfollowed := true, recurses := true, apart := false, narrowed := true }
def DigestInvertsUptoSaid : Prop := digestInvertsUptoRow.holds Try.pinned (OpenSpec.upto digestInvertsSpec)

/-- 'chapmanlaw01.DigestPads', WHERE WHAT IT READS IS OF BULK AT MOST 1048576: true; the input reads as it did. -/
def digestPadsUptoRow : OpenClaim := { program := "ytcmjfmofaligfaa", sum := "65257d0ef9c829278b2162e1694c387e621704249c7f4942fd8d31192367e2b1", func := "chapman/chapmanlaw01.DigestPads", spec := "digestPads", unfollowed := true, recurses := true, apart := false, narrowed := true }
def DigestPadsUptoSaid : Prop := digestPadsUptoRow.holds Try.pinned (OpenSpec.upto digestPadsSpec)

/-- 'chapmanlaw01.DigestBuckets', WHERE WHAT IT READS IS OF BULK AT MOST 1048576: true; the input reads as it did. -/
def digestBucketsUptoRow : OpenClaim := { program := "ytcmjfmofaligfaa", sum := "65257d0ef9c829278b2162e1694c387e621704249c7f4942fd8d31192367e2b1", func := "chapman/chapmanlaw01.DigestBuckets", spec := "digestBuckets", unfollowed := true, recurses := true, apart := false, narrowed := true }
def DigestBucketsUptoSaid : Prop := digestBucketsUptoRow.holds Try.pinned (OpenSpec.upto digestBucketsSpec)

/-- 'chapmanlaw01.DigestPrefixes', WHERE WHAT IT READS IS OF BULK AT MOST 1048576: true; the input reads as it did. -/
def digestPrefixesUptoRow : OpenClaim := { program := "ytcmjfmofaligfaa", sum := "65257d0ef9c829278b2162e1694c387e621704249c7f4942fd8d31192367e2b1", func := "chapman/chapmanlaw01.DigestPrefixes", spec := "digestPrefixes", unfollowed := true, recurses := true, apart := false, narrowed := true }
def DigestPrefixesUptoSaid : Prop := digestPrefixesUptoRow.holds Try.pinned (OpenSpec.upto digestPrefixesSpec)

end Rows
end Go.Proofs.Ytcmjfmofaligfaa
