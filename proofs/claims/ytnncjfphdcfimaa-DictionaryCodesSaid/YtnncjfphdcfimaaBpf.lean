/- Bitpack: the packed form, in the program. -/
import Derived.Test.YtnncjfphdcfimaaBpe
set_option linter.unusedVariables false
set_option linter.unusedSimpArgs false
set_option maxRecDepth 100000
set_option maxHeartbeats 4000000
namespace Go.Proofs.Ytnncjfphdcfimaa
open Go.RowKit
attribute [local irreducible] G GC At wpL DR XPost CPost Cut GA GAR GAX GAt NxA GH GHR NxH

/-- what the iterator over the differences captures -/
def dfM (v : Value) (base W : Int) (b : Nat × Nat × Nat) (q : List As) : List As := .box b.1 (.cells #[v] 24) :: .box b.2.1 (.cells #[I base] 3) :: .box b.2.2 (.cells #[I W] 3) :: q
theorem natCast_siz {n W : Nat} (h : (n : Int) * (W : Int) = ((n * W : Nat) : Int)) : (((n * W + 7) / 8 : Nat) : Int) = ((n : Int) * (W : Int) + 7) / 8 := by omega
end Go.Proofs.Ytnncjfphdcfimaa
