/- Slice expressions with their value told; the form of a row of the call's own. -/
import Derived.Test.YtjdbdjmfimbbkaaOwn
set_option linter.unusedVariables false
set_option linter.unusedSimpArgs false
namespace Go.Proofs.Ytjdbdjmfimbbkaa
open Go.RowKit

/-- what x[lo:hi] is -/
def cutV (A : Option Addr) (c lo hi : Nat) : Value := .slice (if c = lo then A else A.map (·.add lo)) (hi - lo) (c - lo)

section
variable {ro : Option Nat} {P : Program} {N : Nat} {D : List Deferred} {w0 : World} {O : List Nat} {ops : Array Oper} {l : List Oper} {s : List (Nat × Value)} {m : List As} {Q : Exit → Act → World → Prop}
variable {d : Nat} {ty : TypeId} {pos : String} {af : Array Edge}

theorem G_sliceX {t e : TypeId} {z : Value} {x : Operand} {lo? hi? : Option Operand} {A : Option Addr} {n c : Nat} (lo hi : Nat) [ht : Und P t (.slice e)] [hS : Sc P e z] (hx : ev s x = some (.slice A n c))
    (hl : lo?.bind (ev s) = some (I lo) ∨ (lo? = none ∧ lo = 0)) (hh : hi?.bind (ev s) = some (I hi) ∨ (hi? = none ∧ hi = n)) (h1 : lo ≤ hi) (h2 : hi ≤ c) (hN : Nat.blt d N = true)
    (k : G ro P N D w0 O ops l ((d, cutV A c lo hi) :: s) m Q) :
    G ro P N D w0 O ops (⟨some d, .slice t x lo? hi? none, ty, pos, af, none⟩ :: l) s m Q := by
  refine G_val (cutV A c lo hi) rfl rfl (by simp) hN (fun a w hs hm => ?_) k
  have := run_slice (P := P) (w := w) (t := t) (e := e) (A := A) (n := n) (c := c) (lo := lo) (hi := hi) h1 (by omega) (lo?.map a.eval) (hi?.map a.eval)
    (by
      rcases hl with hl | ⟨rfl, rfl⟩
      · cases lo? with
        | none => simp at hl
        | some o => left; simp at hl ⊢; exact hs.ev hl
      · right; simp)
    (by
      rcases hh with hh | ⟨rfl, rfl⟩
      · cases hi? with
        | none => simp at hh
        | some o => left; simp at hh ⊢; exact hs.ev hh
      · right; simp)
  simp only [execOp, hs.ev hx, Option.map_none, Sem.run_bind, this, Result.andThen, Sem.run_pure, cutV]

theorem RdS.cutV {A : Option Addr} {n c lo hi : Nat} {α : Type} {f : α → Value} {xs : List α} (h : RdS w0 O m (.slice A n c) 1 (xs.map f)) (h1 : lo ≤ hi) (h2 : hi ≤ n) :
    RdS w0 O m (cutV A c lo hi) 1 (((xs.drop lo).take (hi - lo)).map f) := h.part lo hi h1 h2

theorem GC_form {c : Code} {v : Value} {e : TypeId} {sz n : Nat} {xs : List Value} {mk : List As} (hp : Take (.own v e sz n xs) m mk)
    (k : ∀ A q, v = .slice A n q → n ≤ q → GC ro P N D w0 O c s m Q) : GC ro P N D w0 O c s m Q := fun a w hs hd hw => by
  have ho : w.ownsRow 0 e sz v n xs := hw.ok (.own v e sz n xs) (hp.perm.mem_iff.2 (by simp))
  rcases ho.2 with ⟨rfl, rfl⟩ | ⟨g, cap, cur, rfl, _, _, h1, _⟩
  · exact k none 0 rfl (Nat.le_refl _) a w hs hd hw
  · exact k _ cap rfl h1 a w hs hd hw

theorem G_form {v : Value} {e : TypeId} {sz n : Nat} {xs : List Value} {mk : List As} (hp : Take (.own v e sz n xs) m mk)
    (k : ∀ A q, v = .slice A n q → n ≤ q → G ro P N D w0 O ops l s m Q) : G ro P N D w0 O ops l s m Q := fun a w hs hd hw => by
  have ho : w.ownsRow 0 e sz v n xs := hw.ok (.own v e sz n xs) (hp.perm.mem_iff.2 (by simp))
  rcases ho.2 with ⟨rfl, rfl⟩ | ⟨g, cap, cur, rfl, _, _, h1, _⟩
  · exact k none 0 rfl (Nat.le_refl _) a w hs hd hw
  · exact k _ cap rfl h1 a w hs hd hw
end
end Go.Proofs.Ytjdbdjmfimbbkaa
