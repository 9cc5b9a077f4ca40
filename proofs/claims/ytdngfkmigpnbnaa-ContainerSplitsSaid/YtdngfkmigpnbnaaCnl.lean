/- Container: made files; what the laws' walks share. -/
import Derived.Test.YtdngfkmigpnbnaaCnk
set_option linter.unusedVariables false
set_option linter.unusedSimpArgs false
set_option maxRecDepth 100000
set_option maxHeartbeats 4000000
namespace Go.Proofs.Ytdngfkmigpnbnaa
open Go.RowKit
attribute [local irreducible] G GC At wpL DR XPost CPost Cut GA GAR GAX GAt NxA GH GHR NxH
attribute [local irreducible] fiB opB seB spB sumB packB

/-- a made file -/
def mdF (k : BitVec 8) (l : List Int) (b : List (BitVec 8)) : Fl := ⟨1 + (k.toNat : Int) % 9, l.take 40, b.take 200⟩
theorem mdF_ok {k : BitVec 8} {l : List Int} {b : List (BitVec 8)} (h : okI l) : OkF (mdF k l b) := by
  refine ⟨?_, ?_, ?_, ?_⟩ <;> simp only [mdF]
  · omega
  · rw [List.length_take]; omega
  · rw [List.length_take]; omega
  · exact fun x hx => h x (List.mem_of_mem_take hx)
theorem ok_take {l : List Int} (h : okI l) : okI (l.take 40) := fun x hx => h x (List.mem_of_mem_take hx)
theorem seB_le {f : Fl} (h : OkF f) : (seB f).length ≤ 100000 := by
  have h1 := (packB_le (l := f.id) (by have := h.id; omega)).1
  have h2 := vint_10 (BitVec.ofNat 64 f.da.length)
  have h3 := h.da
  rw [seB_length]; omega
theorem seB_le2 {k : BitVec 8} {l : List Int} {b : List (BitVec 8)} (h : okI l) : (seB (mdF k l b)).length ≤ 34000 := by
  have h0 := mdF_ok (k := k) (b := b) h
  have h1 := (packB_le (l := (mdF k l b).id) (by have := h0.id; omega)).1
  have h2 := vint_10 (BitVec.ofNat 64 (mdF k l b).da.length)
  have h3 : (mdF k l b).da.length ≤ 200 := by simp only [mdF, List.length_take]; omega
  rw [seB_length]; omega
instance {w0 : World} {O : List Nat} {m : List As} : CallV Try.prog w0 O m 9 [] True (.bool true) := ⟨fun _ w _ => law_examples w⟩
end Go.Proofs.Ytdngfkmigpnbnaa
