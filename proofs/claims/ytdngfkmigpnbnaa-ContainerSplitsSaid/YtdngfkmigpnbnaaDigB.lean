/- Contracts: digests of lists and of bytes, in the program and in the reference. -/
import Derived.Test.YtdngfkmigpnbnaaDigA
set_option linter.unusedVariables false
set_option linter.unusedSimpArgs false
set_option maxRecDepth 100000
set_option maxHeartbeats 4000000
namespace Go.Proofs.Ytdngfkmigpnbnaa
open Go.RowKit
attribute [local irreducible] G GC At wpL DR XPost CPost Cut GA GAR GAX GAt NxA GH GHR NxH

theorem foldB_cons (h x : BitVec 64) (xs : List (BitVec 64)) : foldB h (x :: xs) = foldB (stepB h x) xs := rfl

/-! ### the reference -/
end Go.Proofs.Ytdngfkmigpnbnaa
