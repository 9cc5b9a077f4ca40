/- Bitpack: UnpackIn, in the reference. -/
import Derived.Test.YtnncjfphdcfimaaBpi
set_option linter.unusedVariables false
set_option linter.unusedSimpArgs false
set_option maxRecDepth 100000
set_option maxHeartbeats 4000000
namespace Go.Proofs.Ytnncjfphdcfimaa
open Go.RowKit
attribute [local irreducible] G GC At wpL DR XPost CPost Cut GA GAR GAX GAt NxA GH GHR NxH

section
variable {w0 : World} {O : List Nat} {m : List As}
end
theorem lsA_zero (body : List (BitVec 8)) (low : Int) (W : Nat) : lsA body low W 0 = [] := rfl
theorem lsA_succ (body : List (BitVec 8)) (low : Int) (W n : Nat) : lsA body low W (n + 1) = lsA body low W n ++ [vAt body low W n] := by simp [lsA, List.range_succ]
/-- what UnpackIn gives -/
def unA (q rest : Value) : Except Int (List Int × Nat) → Value
  | .error e => .agg #[U 0#64, .slice none 0 0, .slice none 0 0, I e]
  | .ok _ => .agg #[U 0#64, q, rest, I 0]
section
variable {w0 : World} {O : List Nat} {m : List As}
end

instance slcR_rest {w0 : World} {O : List Nat} {m : List As} {v : Value} {bs : List (BitVec 8)} [h : SlcR w0 O m v] : SlcR w0 O m (restV v bs) := by
  unfold restV
  split
  · exact inferInstance
  · split
    · exact inferInstance
    · split
      · exact inferInstance
      · exact inferInstance
/-! ### The laws' wrappers -/
end Go.Proofs.Ytnncjfphdcfimaa
