/- Elements of a row of the call's own: read and written. -/
import Derived.Test.YtjdbdjmfimbbkaaZero
set_option linter.unusedVariables false
set_option linter.unusedSimpArgs false
namespace Go.Proofs.Ytjdbdjmfimbbkaa
open Go.RowKit

theorem take_cell {cur : Array Value} {k : Nat} {xs : List Value} (h : cur.toList.take k = xs) {i : Nat} (hi : i < xs.length) : cur[i]? = some xs[i] := by
  subst h
  rw [List.length_take] at hi
  have h1 : i < cur.toList.length := by omega
  rw [List.getElem_take, ← Array.getElem?_toList, List.getElem?_eq_getElem h1]

section
variable {ro : Option Nat} {P : Program} {N : Nat} {D : List Deferred} {w0 : World} {O : List Nat} {ops : Array Oper} {l : List Oper} {s : List (Nat × Value)} {m : List As} {Q : Exit → Act → World → Prop}
variable {d : Nat} {ty : TypeId} {pos : String} {af : Array Edge}

/-- the place of an element of a row of the call's own -/
theorem G_index_own {t e : TypeId} {z : Value} {x y : Operand} {v : Value} {n j : Nat} {xs : List Value} {mk : List As} [ht : Und P t (.slice e)] [hS : Sc P e z] (hx : ev s x = some v) (hy : ev s y = some (I j)) (hp : Take (.own v e 1 n xs) m mk) (hj : j < n) (hN : Nat.blt d N = true)
    (k : ∀ g cap, v = .slice (some ⟨g, 0, none⟩) n cap → G ro P N D w0 O ops l ((d, .pointer (some ⟨g, j, none⟩)) :: s) m Q) : G ro P N D w0 O ops (⟨some d, .indexAddr t x y, ty, pos, af, none⟩ :: l) s m Q := fun a w hs hdf hw => by
  have ho : w.ownsRow 0 e 1 v n xs := hw.ok (.own v e 1 n xs) (hp.perm.mem_iff.2 (by simp))
  rcases ho.2 with ⟨_, h0⟩ | ⟨g, cap, cur, rfl, _⟩
  · omega
  · have h := G_indexS (ro := ro) (P := P) (N := N) (D := D) (w0 := w0) (O := O) (ops := ops) (l := l) (s := s) (m := m) (Q := Q) (d := d) (ty := ty) (pos := pos) (af := af) (t := t) (x := x) (y := y) (b := g) (off := 0) (n := n) (c := cap) (j := j) hx hy hj hN (by rw [Nat.zero_add]; exact k g cap rfl)
    exact h a w hs hdf hw

/-- an element is written -/
theorem G_store_own {t e : TypeId} {z v : Value} {x y : Operand} {g j n cap : Nat} {xs : List Value} {mk : List As} [hS : Sc P t z] (hx : ev s x = some (.pointer (some ⟨g, j, none⟩))) (hy : ev s y = some v) (h1 : v.oneCell' = true)
    (hp : Take (.own (.slice (some ⟨g, 0, none⟩) n cap) e 1 n xs) m mk) (hj : j < n) (k : G ro P N D w0 O ops l s (.own (.slice (some ⟨g, 0, none⟩) n cap) e 1 n (xs.set j v) :: mk) Q) : G ro P N D w0 O ops (⟨none, .store t x y, ty, pos, af, none⟩ :: l) s m Q :=
  G_unown hp (by omega) fun g' cap' cur ev hcap hmax hcur htk => by
    cases ev
    have hlen : xs.length = n := by rw [← htk]; simp; omega
    refine G_store (b := g) (off := j) (cs := cur) (e := e) hx hy h1 (take_cell htk (by omega)) rfl ?_
    refine G_reown (n := n) (cap := cap) (sz := 1) Take.here hcap hmax (by simpa using hcur) ?_
    rw [Array.toList_setIfInBounds, List.take_set, htk]
    exact k

/-- .. read -/
theorem G_load_own {t e : TypeId} {z : Value} {x : Operand} {g j n cap : Nat} {xs : List Value} {mk : List As} [hS : Sc P t z] (hx : ev s x = some (.pointer (some ⟨g, j, none⟩)))
    (hp : Take (.own (.slice (some ⟨g, 0, none⟩) n cap) e 1 n xs) m mk) (hj : j < xs.length) (hN : Nat.blt d N = true) (k : G ro P N D w0 O ops l ((d, xs[j]) :: s) m Q) : G ro P N D w0 O ops (⟨some d, .load t x, ty, pos, af, none⟩ :: l) s m Q :=
  G_load_cell hx (fun w hw => by
    have ho : w.ownsRow 0 e 1 (.slice (some ⟨g, 0, none⟩) n cap) n xs := hw.ok (.own _ e 1 n xs) (hp.perm.mem_iff.2 (by simp))
    have := World.ownsRow.cells ho (g := g) rfl j xs[j] (by simp [hj])
    rwa [addr_add, Nat.zero_add] at this) hN k

/-- append onto a row of one-cell elements -/
theorem G_append1 {t e : TypeId} {z : Value} {bs : Nat} {x y : Operand} {v u : Value} {n k : Nat} {xs ys : List Value} {mk : List As} [ht : Und P t (.slice e)] [hR : Rw P e [z] bs] (hx : ev s x = some v) (hy : ev s y = some u)
    (hp : Take (.own v e 1 n xs) m mk) (hu : RdS w0 O m u 1 ys) (hk : ys.length = k) (h1 : ∀ c ∈ ys, c.oneCell' = true) (hb : (n + k) * bs ≤ 140737488355328) (hN : Nat.blt d N = true)
    (kk : ∀ v', G ro P N D w0 O ops l ((d, v') :: s) (.own v' e 1 (n + k) (xs ++ ys) :: mk) Q) :
    G ro P N D w0 O ops (⟨some d, .call ⟨.builtin .append, #[x, y], #[t, t]⟩, ty, pos, af, none⟩ :: l) s m Q :=
  G_append (zs := [z]) hx hy hp hu (by simpa using hk) h1 hb hN kk

/-- append(v, a): one element out of a slice that was just built -/
theorem G_append_lit {t e : TypeId} {z : Value} {bs : Nat} {x y : Operand} {v c : Value} {n b : Nat} {xs : List Value} {mk : List As} [ht : Und P t (.slice e)] [hR : Rw P e [z] bs] (hx : ev s x = some v) (hy : ev s y = some (.slice (some ⟨b, 0, none⟩) 1 1))
    (hp : Take (.own v e 1 n xs) m mk) {eb : TypeId} [hh : Held b m (.cells #[c] eb)] (h1 : c.oneCell' = true) (hb : (n + 1) * bs ≤ 140737488355328) (hN : Nat.blt d N = true)
    (kk : ∀ v', G ro P N D w0 O ops l ((d, v') :: s) (.own v' e 1 (n + 1) (xs ++ [c]) :: mk) Q) :
    G ro P N D w0 O ops (⟨some d, .call ⟨.builtin .append, #[x, y], #[t, t]⟩, ty, pos, af, none⟩ :: l) s m Q :=
  G_append1 (k := 1) (ys := [c]) hx hy hp (fun w hw => rd_box (cs := [c]) (hw.ok (.box b (.cells #[c] eb)) hh.mem) rfl (by simp [maxLen])) rfl (by simpa using h1) hb hN kk

theorem RdS.cell {ad : Addr} {n c : Nat} {α : Type} {f : α → Value} {xs : List α} (h : RdS w0 O m (.slice (some ad) n c) 1 (xs.map f)) (j : Nat) (hj : j < xs.length) : Cell w0 O m (ad.add j) (f xs[j]) := fun w hw => by
  obtain ⟨A, n', c', e, h1, h2, h3, h4⟩ := h w hw
  cases e
  obtain ⟨ad', e, h5⟩ := h4 (by simp; omega)
  cases e
  exact h5 j _ (by simp [hj])

/-- the elements of a slice that lay before, by their places -/
theorem RdO.cell {ad : Addr} {n c : Nat} {α : Type} {f : α → Value} {xs : List α} (h : RdO w0 O (.slice (some ad) n c) 1 (xs.map f)) (j : Nat) (hj : j < xs.length) : ∀ m, Cell w0 O m (ad.add j) (f xs[j]) := fun m => h.now.cell j hj
end
end Go.Proofs.Ytjdbdjmfimbbkaa
