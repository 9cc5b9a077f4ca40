/- What is held, by classes: rows of Lean values; the rules of slices. -/
import Derived.Test.YtjdbdjmfimbbkaaTyp
import Derived.Great.FillDense
import Derived.Laws.OwnMore
set_option linter.unusedVariables false
set_option linter.unusedSimpArgs false
namespace Go.Proofs.Ytjdbdjmfimbbkaa
open Go.RowKit

/-- a row of the call's own -/
def row {α : Type} [Elt α] (v : Value) (e : TypeId) (l : List α) : As := .own v e (Elt.sz α) l.length (encs l)
/-- .. that was just built -/
def lit {α : Type} [Elt α] (v : Value) (e : TypeId) (l : List α) : As := row v e l

theorem row_ok {α : Type} [Elt α] {v : Value} {e : TypeId} {l : List α} {w : World} (h : (row v e l).ok w) : w.ownsRow 0 e (Elt.sz α) v l.length (encs l) := h

/-! ### From one list of what is held to another -/
def Ent (m m' : List As) : Prop := ∀ (pre : List As) (w0 : World) (O : List Nat) (w : World), St w0 O (pre ++ m) w → St w0 O (pre ++ m') w

theorem Ent.refl (m : List As) : Ent m m := fun _ _ _ _ h => h
theorem Ent.trans {m m' m'' : List As} (h : Ent m m') (h' : Ent m' m'') : Ent m m'' := fun p w0 O w hw => h' p w0 O w (h p w0 O w hw)
theorem Ent.st {m m' : List As} (h : Ent m m') {w0 : World} {O : List Nat} {w : World} (hw : St w0 O m w) : St w0 O m' w := h [] w0 O w hw
theorem Ent.cons {m m' : List As} (x : As) (h : Ent m m') : Ent (x :: m) (x :: m') := fun p w0 O w hw => by
  have := h (p ++ [x]) w0 O w (by simpa using hw)
  simpa using this
theorem Ent.perm {m m' : List As} (h : List.Perm m m') : Ent m m' := fun p w0 O w hw => hw.perm (List.Perm.append_left p h)
theorem Ent.sub {m m' : List As} (h : List.Sublist m' m) : Ent m m' := fun p w0 O w hw => hw.drop (List.Sublist.append (List.Sublist.refl p) h)
theorem Ent.swap (x y : As) (m : List As) : Ent (x :: y :: m) (y :: x :: m) := Ent.perm (List.Perm.swap y x m)
theorem Ent.skip {m mk : List As} {x : As} (y : As) (h : Ent m (x :: mk)) : Ent (y :: m) (x :: y :: mk) := (h.cons y).trans (Ent.swap y x mk)
theorem Ent.tail (x : As) (m : List As) : Ent (x :: m) m := Ent.sub (List.sublist_cons_self x m)
theorem Ent.nil {α : Type} [Elt α] (e : TypeId) (m : List As) : Ent m (row (.slice none 0 0) e ([] : List α) :: m) := fun p w0 O w hw =>
  ⟨hw.os, hw.tape, hw.output, hw.size, hw.keep, fun x hx => by
    rcases List.mem_append.1 hx with hx | hx
    · exact hw.ok x (List.mem_append_left _ hx)
    · rcases List.mem_cons.1 hx with rfl | hx
      · exact World.ownsRow_nil w 0 e _
      · exact hw.ok x (List.mem_append_right _ hx), by
    have := hw.nodup
    simpa [List.flatMap_append, row, As.foot, Value.ownBlock] using this, fun b hb => hw.new b (by
    simpa [List.flatMap_append, row, As.foot, Value.ownBlock] using hb)⟩

/-- v is held as a row of the elements l. -/
class OwnR (v : Value) (m : List As) (e : TypeId) {α : Type} [Elt α] (l : outParam (List α)) (mk : outParam (List As)) : Prop where
  ent : Ent m (row v e l :: mk)
section
variable {α : Type} [Elt α] {v : Value} {e : TypeId} {l : List α} {m mk : List As}
instance (priority := high) ownR_here : OwnR v (row v e l :: m) e l m := ⟨Ent.refl _⟩
instance (priority := high) ownR_lit : OwnR v (lit v e l :: m) e l m := ⟨Ent.refl _⟩
instance (priority := high) ownR_nil : OwnR (.slice none 0 0) m e ([] : List α) m := ⟨Ent.nil e m⟩
instance (priority := low) ownR_there {x : As} [h : OwnR v m e l mk] : OwnR v (x :: m) e l (x :: mk) := ⟨h.ent.skip x⟩
end

/-- block b is held -/
class BoxR (b : Nat) (m : List As) (o : outParam Obj) (mk : outParam (List As)) : Prop where
  ent : Ent m (.box b o :: mk)
instance (priority := high) boxR_here {b : Nat} {o : Obj} {m : List As} : BoxR b (.box b o :: m) o m := ⟨Ent.refl _⟩
instance (priority := low) boxR_there {b : Nat} {o : Obj} {m mk : List As} {x : As} [h : BoxR b m o mk] : BoxR b (x :: m) o (x :: mk) := ⟨h.ent.skip x⟩

/-- what is held gives what is wanted -/
class SubM (m m' : List As) : Prop where
  ent : Ent m m'
instance subM_nil {m : List As} : SubM m [] := ⟨Ent.sub (List.nil_sublist m)⟩
instance (priority := high) subM_refl {m : List As} : SubM m m := ⟨Ent.refl m⟩
instance subM_row {α : Type} [Elt α] {v : Value} {e : TypeId} {l : List α} {m mk r : List As} [h : OwnR v m e l mk] [h' : SubM mk r] : SubM m (row v e l :: r) := ⟨h.ent.trans (h'.ent.cons _)⟩
instance subM_box {b : Nat} {o : Obj} {m mk r : List As} [h : BoxR b m o mk] [h' : SubM mk r] : SubM m (.box b o :: r) := ⟨h.ent.trans (h'.ent.cons _)⟩

instance (priority := low) subM_skip {x : As} {m r : List As} [h : SubM m r] : SubM (x :: m) r := ⟨(Ent.tail x m).trans h.ent⟩

/-! ### What can be read -/
/-- It read so when the call began, and lies in no block of O. -/
class RdOld (w0 : World) (O : List Nat) (v : Value) {α : outParam Type} [i : outParam (Elt α)] (l : outParam (List α)) : Prop where
  old : RdO w0 O v (Elt.sz α) (encs l)
class RdR (w0 : World) (O : List Nat) (m : List As) (v : Value) {α : Type} [Elt α] (l : outParam (List α)) : Prop where
  rd : ∀ w, St w0 O m w → RdL w v l

section
variable {α : Type} [Elt α] {w0 : World} {O : List Nat} {m : List As} {v : Value} {e : TypeId} {l : List α}
theorem RdOld.of {w : World} (h : RdL w v l) : RdOld w [] v l := ⟨RdO.old h⟩
theorem RdOld.rd {w : World} {O : List Nat} (h : RdOld w O v l) : RdL w v l := h.old.rd
theorem RdL.len_le {w : World} (h : RdL w v l) : l.length ≤ 9223372036854775807 := by
  obtain ⟨A, c, _, h1, h2, _⟩ := h.form
  unfold maxLen at h2; omega
instance (priority := high) rdR_old [h : RdOld w0 O v l] : RdR w0 O m v l := ⟨fun w hw => h.old.now w hw⟩
instance (priority := high) rdR_here : RdR w0 O (row v e l :: m) v l := ⟨fun w hw => rd_own (row_ok (hw.ok _ (List.Mem.head _)))⟩
instance (priority := high) rdR_lit : RdR w0 O (lit v e l :: m) v l := ⟨fun w hw => rd_own (row_ok (hw.ok _ (List.Mem.head _)))⟩
instance (priority := high) rdR_nil : RdR w0 O m (.slice none 0 0) ([] : List α) := ⟨fun w _ => RdL.nil w⟩
instance (priority := low) rdR_there {x : As} [h : RdR w0 O m v l] : RdR w0 O (x :: m) v l := ⟨fun w hw => h.rd w (hw.drop (List.sublist_cons_self _ _))⟩
instance rdR_cut {lo hi : Nat} [h : RdR w0 O m v l] [hb : Fct (lo ≤ hi ∧ hi ≤ l.length)] : RdR w0 O m (cut α v lo hi) ((l.drop lo).take (hi - lo)) := ⟨fun w hw => (h.rd w hw).cut hb.out.1 hb.out.2⟩
end

/-! ### The rules -/
section
variable {ro : Option Nat} {P : Program} {N : Nat} {D : List Deferred} {w0 : World} {O : List Nat} {ops : Array Oper} {lo : List Oper} {s : List (Nat × Value)} {m : List As} {Q : Exit → Act → World → Prop}
variable {d : Nat} {ty : TypeId} {pos : String} {af : Array Edge} {α : Type} [Elt α]

theorem G_ent {m' : List As} (h : Ent m m') (k : G ro P N D w0 O ops lo s m' Q) : G ro P N D w0 O ops lo s m Q := fun a w hs hd hm => k a w hs hd (h.st hm)
theorem GC_ent {c : Code} {m' : List As} (h : Ent m m') (k : GC ro P N D w0 O c s m' Q) : GC ro P N D w0 O c s m Q := fun a w hs hd hm => k a w hs hd (h.st hm)
theorem At_ent {e : Exit} {m' : List As} (h : Ent m m') (k : At N D w0 O e s m' Q) : At N D w0 O e s m Q := fun a w hs hd hm => k a w hs hd (h.st hm)

theorem G_lenR {t e : TypeId} {x : Operand} {v : Value} {l : List α} [Und P t (.slice e)] [Lay P e α] (hx : ev s x = some v) (hN : Nat.blt d N = true) [h : RdR w0 O m v l] (k : G ro P N D w0 O ops lo ((d, I l.length) :: s) m Q) :
    G ro P N D w0 O ops (⟨some d, .call ⟨.builtin .len, #[x], #[t]⟩, ty, pos, af, none⟩ :: lo) s m Q := fun a w hs hd hm => by
  obtain ⟨A, c, rfl, _⟩ := (h.rd w hm).form
  exact G_len (e := e) hx hN k a w hs hd hm

theorem Lay.zs {e : TypeId} [h : Lay P e α] {zs : List Value} {bs : Nat} [hR : Rw P e zs bs] (w : World) : zs.length = Elt.sz α := by
  obtain ⟨i, z, h1, h2, h3, h4, h5⟩ := hR.info
  have := h.size w
  simp [sizeOf, typeInfo, h1, h3] at this
  exact this

/-- a ++ b in short -/
class AppN {α : Type} (a b : List α) (r : outParam (List α)) : Prop where
  eq : a ++ b = r
instance (priority := high) appN_nil {α : Type} {b : List α} : AppN [] b b := ⟨rfl⟩
instance (priority := high) appN_nil2 {α : Type} {a : List α} : AppN a [] a := ⟨List.append_nil a⟩
instance appN_cons {α : Type} {x : α} {a b r : List α} [h : AppN a b r] : AppN (x :: a) b (x :: r) := ⟨by rw [← h.eq]; rfl⟩
instance appN_assoc {α : Type} {a b c r : List α} [h : AppN b c r] : AppN (a ++ b) c (a ++ r) := ⟨by rw [List.append_assoc, h.eq]⟩
instance (priority := high) appN_take {α : Type} {l : List α} {k : Nat} (h : k < l.length) : AppN (l.take k) [l[k]'h] (l.take (k + 1)) := ⟨(List.take_succ_eq_append_getElem h).symm⟩
instance (priority := high) appN_takeMap {α β : Type} {l : List α} {f : α → β} {k : Nat} (h : k < l.length) : AppN ((l.take k).map f) [f (l[k]'h)] ((l.take (k + 1)).map f) := ⟨by rw [List.take_succ_eq_append_getElem h, List.map_append]; rfl⟩
instance (priority := high) appN_rep {α : Type} {a : α} {k : Nat} : AppN (List.replicate k a) [a] (List.replicate (k + 1) a) := ⟨List.replicate_succ'.symm⟩
instance (priority := low) appN_any {α : Type} {a b : List α} : AppN a b (a ++ b) := ⟨rfl⟩

/-- append(v, u...) -/
theorem G_appR {t e : TypeId} {zs : List Value} {bs : Nat} {x y : Operand} {v u : Value} {l l' r : List α} {mk : List As} [ht : Und P t (.slice e)] [hL : Lay P e α] [hR : Rw P e zs bs] (hx : ev s x = some v) (hy : ev s y = some u) (hN : Nat.blt d N = true)
    [ho : OwnR v m e l mk] [hu : RdR w0 O m u l'] [hn : AppN l l' r]
    (kk : ∀ v', G ro P N D w0 O ops lo ((d, v') :: s) (row v' e r :: mk) Q) (hb : (l.length + l'.length) * bs ≤ 140737488355328 := by first | omega | (simp only [List.length_append, List.length_cons, List.length_nil, List.length_map, List.length_take, List.length_drop, List.length_replicate, List.length_set, List.length_reverse]; omega)) :
    G ro P N D w0 O ops (⟨some d, .call ⟨.builtin .append, #[x, y], #[t, t]⟩, ty, pos, af, none⟩ :: lo) s m Q :=
  G_any (ι := Value) id (fun v' => row v' e (l ++ l') :: mk) (fun _ => True) rfl rfl (by simp) hN (fun a w hs hw0 => by
    obtain ⟨i, z, i1, i2, i3, i4, i5⟩ := hR.info
    have hz := Lay.zs (α := α) (e := e) (P := P) (zs := zs) (bs := bs) w
    rw [hz] at i3
    have hw := ho.ent.st hw0
    have hown : w.ownsRow 0 e (Elt.sz α) v l.length (encs l) := row_ok (hw.ok _ (List.Mem.head _))
    obtain ⟨A, c, rfl, r2, r3, _⟩ := (hu.rd w hw0).form
    obtain ⟨A', q, c', e', r1, _, _, r4⟩ := hu.rd w hw0
    cases e'
    have hbp := hR.bpos
    have hmax : l.length + l'.length ≤ maxLen := by
      have := Nat.le_mul_of_pos_right (l.length + l'.length) hR.bpos
      simp only [maxLen]
      omega
    have key : ∃ v' w', (Builtin.append_ #[t, t] ty #[v, .slice A l'.length c]).run P w = .ok v' w' ∧ w'.ownsRow 0 e (Elt.sz α) v' (l.length + l'.length) (encs l ++ encs l') ∧ w.grownBy w' v.ownBlock ∧ (v'.ownBlock = v.ownBlock ∨ v'.ownBlock = some w.heap.size) := by
      by_cases h0 : 0 < (encs l').length
      · obtain ⟨ad, rfl, r5⟩ := r4 h0
        obtain ⟨v', w', g1, g2, g3, _, g5⟩ := run_append_own_at (P := P) w 0 t ty e i z (Elt.sz α) bs ht.eq i1 i2 i3 i4 (by rw [i5]; simpa using hz) Elt.pos v l.length (encs l) hown ad l'.length c (encs l') r1 r5 (encs_one l') hmax hb (Nat.zero_le _)
        exact ⟨v', w', g1, g2, g3, g5⟩
      · have hl0 : l' = [] := by
          rw [encs_length] at h0
          have := Nat.pos_of_ne_zero (n := l'.length * Elt.sz α)
          rcases Nat.eq_zero_or_pos l'.length with h | h
          · exact List.eq_nil_of_length_eq_zero h
          · exact absurd (Nat.mul_pos h Elt.pos) h0
        subst hl0
        obtain ⟨A', c', rfl, hle⟩ := own_le hown
        have hsrc : Src P i.size t (.slice A 0 c) 0 [] w := by
          cases A with
          | none => exact Src.ofNil w ht.eq c
          | some ad => exact Src.ofSlice w ht.eq ad 0 c [] (by simp) (by simp) (by simp)
        refine ⟨_, w, run_append_nothing w t t ty e i ht.eq i1 A' l.length c' hle _ hsrc, ?_, ⟨rfl, rfl, rfl, Nat.le_refl _, fun _ _ _ => rfl⟩, .inl rfl⟩
        simpa using hown
    obtain ⟨v', w', g1, g2, g3, g4⟩ := key
    have he : row v' e (l ++ l') = .own v' e (Elt.sz α) (l.length + l'.length) (encs l ++ encs l') := by simp [row]
    refine ⟨v', w', trivial, ?_, by rw [he]; exact hw.append Take.here g2 g3 g4⟩
    simp [execOp, resolve, invoke, builtin, hs.ev hx, hs.ev hy, g1]) (fun v' _ => by rw [hn.eq]; exact kk v')

/-- append(v, a, ..): the elements were built for it alone -/
theorem G_appLit {t e : TypeId} {zs : List Value} {bs : Nat} {x y : Operand} {v u : Value} {l l' r : List α} {m1 mk : List As} [ht : Und P t (.slice e)] [hL : Lay P e α] [hR : Rw P e zs bs] (hx : ev s x = some v) (hy : ev s y = some u) (hN : Nat.blt d N = true)
    [ho : OwnR v m1 e l mk] [hn : AppN l l' r]
    (kk : ∀ v', G ro P N D w0 O ops lo ((d, v') :: s) (row v' e r :: mk) Q) (hb : (l.length + l'.length) * bs ≤ 140737488355328 := by first | omega | (simp only [List.length_append, List.length_cons, List.length_nil, List.length_map, List.length_take, List.length_drop, List.length_replicate, List.length_set, List.length_reverse]; omega)) :
    G ro P N D w0 O ops (⟨some d, .call ⟨.builtin .append, #[x, y], #[t, t]⟩, ty, pos, af, none⟩ :: lo) s (lit u e l' :: m1) Q :=
  G_appR (l := l) (l' := l') (mk := lit u e l' :: mk) hx hy hN (ho := ⟨ho.ent.skip _⟩) (fun v' => G_ent ((Ent.tail _ _).cons _) (kk v')) hb

/-! elements out of values -/
class DecE (α : Type) [Elt α] (v : Value) (a : outParam α) (side : outParam Prop) : Prop where
  eq : side → v = Elt.val a
class DecL (α : Type) [Elt α] (vs : List Value) (l : outParam (List α)) (side : outParam Prop) : Prop where
  eq : side → vs = l.map Elt.val
instance decL_nil : DecL α [] [] True := ⟨fun _ => rfl⟩
instance decL_one {v : Value} {a : α} {p : Prop} [h : DecE α v a p] : DecL α [v] [a] p := ⟨fun hp => by rw [h.eq hp]; rfl⟩
instance (priority := low) decL_cons {v : Value} {vs : List Value} {a : α} {l : List α} {p q : Prop} [h : DecE α v a p] [h' : DecL α vs l q] : DecL α (v :: vs) (a :: l) (p ∧ q) := ⟨fun hp => by rw [h.eq hp.1, h'.eq hp.2]; rfl⟩
class Tr (b : Bool) : Prop where
  eq : b = true
instance : Tr true := ⟨rfl⟩
instance decE_int (n : Int) : DecE Int (I n) n True := ⟨fun _ => rfl⟩
instance decE_u64 (x : BitVec 64) : DecE (BitVec 64) (.int .u64 (x.toNat : Int)) x True := ⟨fun _ => rfl⟩
instance decE_byte (x : BitVec 8) : DecE (BitVec 8) (.int .u8 (x.toNat : Int)) x True := ⟨fun _ => rfl⟩
instance decE_bool (x : Bool) : DecE Bool (.bool x) x True := ⟨fun _ => rfl⟩
instance decE_byteLit (n : Nat) : DecE (BitVec 8) (.int .u8 (no_index (OfNat.ofNat n))) (BitVec.ofNat 8 (OfNat.ofNat n)) (n ≤ 255) := ⟨fun h => by
  show Value.int .u8 ((n : Nat) : Int) = Value.int .u8 ((BitVec.ofNat 8 n).toNat : Int)
  rw [BitVec.toNat_ofNat, Nat.mod_eq_of_lt (by omega)]⟩

theorem flat_vals : ∀ l : List α, ((l.map Elt.val).flatMap fun v => v.cells.toList) = encs l
  | [] => rfl
  | b :: r => by rw [List.map_cons, List.flatMap_cons, flat_vals r, Elt.cells, encs_cons]
/-- a slice's literal -/
theorem G_litR {t e : TypeId} {zs : List Value} {bs : Nat} {n : Nat} {parts : Array (Nat × Operand)} {vals : List Value} {l : List α} [ht : Und P t (.slice e)] [hL : Lay P e α] [hR : Rw P e zs bs]
    (hv : evs s (parts.toList.map (·.2)) = some vals) (hi : parts.toList.map (·.1) = List.range n) (hn : Nat.beq parts.size n = true) (hsz : Nat.ble (n * zs.length) 10000 = true) (hN : Nat.blt d N = true) {side : Prop} [hl0 : DecL α vals l side]
    (k : ∀ v, G ro P N D w0 O ops lo ((d, v) :: s) (lit v e l :: m) Q) (hsd : side := by first | exact trivial | decide | omega) :
    G ro P N D w0 O ops (⟨some d, .buildSlice t n parts, ty, pos, af, none⟩ :: lo) s m Q :=
  G_any (ι := Value) id (fun v => lit v e l :: m) (fun _ => True) rfl rfl (by simp) hN
    (fun a w hs hm => by
      have hl := hl0.eq hsd
      obtain ⟨i, z, i1, i2, i3, i4, i5⟩ := hR.info
      have hz := Lay.zs (α := α) (e := e) (P := P) (zs := zs) (bs := bs) w
      have hps : parts.size = n := Nat.eq_of_beq_eq_true hn
      have hvl : vals.length = n := by
        have := congrArg List.length (evs_map hs hv)
        simp at this; omega
      have hll : l.length = n := by rw [← hvl, hl]; simp
      have hp : (parts.toList.map fun x => (x.1, a.eval x.2)) = (vals.zipIdx 0).map fun x => (x.2, x.1) := by
        have h1 : (parts.toList.map fun x => (x.1, a.eval x.2)) = (List.range n).zip vals := by
          rw [← hi, ← evs_map hs hv]
          generalize parts.toList = ps
          induction ps with
          | nil => rfl
          | cons x r ih => simp [ih]
        rw [h1]
        apply List.ext_getElem?
        intro j
        simp [List.getElem?_map, List.getElem?_zip_eq_some, List.zip, List.getElem?_zipWith]
        by_cases hj : j < n
        · simp [hj, hvl, List.getElem?_eq_getElem (show j < vals.length by omega)]
        · simp [hj, List.getElem?_eq_none (show vals.length ≤ j by omega)]
      have hcs : ∀ v ∈ vals, v.cells.size = Elt.sz α := by
        intro v hv'
        rw [hl] at hv'
        obtain ⟨b, _, rfl⟩ := List.mem_map.1 hv'
        rw [Elt.cells]; simp [Elt.len]
      have hflat : (vals.flatMap fun v => v.cells.toList) = encs l := by
        rw [hl, flat_vals]
      have hle : n * Elt.sz α ≤ 10000 := by rw [← hz]; exact Nat.le_of_ble_eq_true hsz
      have hlim : ¬ 2 ^ 24 < n * Elt.sz α := by
        have : (10000 : Nat) ≤ 2 ^ 24 := by decide
        omega
      generalize hL2 : (2 : Nat) ^ 24 = L at hlim
      have hfill : ∀ cs : Array Value, cs.size = n * Elt.sz α → Instr.fill (fun i => some (i * Elt.sz α, Elt.sz α)) cs (parts.toList.map fun x => (x.1, a.eval x.2)) = some (encs l).toArray := fun cs hc => by
        rw [hp, Great.fill_whole Elt.pos vals cs hcs (by rw [hvl, hc]), hflat]
      have hown : ∀ w1 : World, w1 = w.alloc (.cells (encs l).toArray e) → St w0 O (lit (.slice (some ⟨w.heap.size, 0, none⟩) n n) e l :: m) w1 := fun w1 hw1 => by
        subst hw1
        refine hm.grow (m' := [lit (.slice (some ⟨w.heap.size, 0, none⟩) n n) e l]) ⟨rfl, rfl, rfl, by simp, fun k hk _ => Below.heap_alloc w _ k hk, fun x hx => ?_, by simp [lit, row, As.foot, Value.ownBlock], fun b hb => ?_⟩
        · simp only [List.mem_singleton] at hx
          subst hx
          have hle1 : n ≤ n * Elt.sz α := Nat.le_mul_of_pos_right _ Elt.pos
          exact ⟨by rw [encs_length], .inr ⟨w.heap.size, n, (encs l).toArray, by rw [hll], Nat.zero_le _, heap_alloc_new w _, by omega, by simp only [maxLen]; omega, by simp [encs_length, hll], by rw [hll, ← hll, ← encs_length]; simp⟩⟩
        · simp [lit, row, As.foot, Value.ownBlock] at hb
          subst hb
          exact .inl (Nat.le_refl _)
      refine ⟨.slice (some ⟨w.heap.size, 0, none⟩) n n, _, trivial, ?_, hown _ rfl⟩
      have hsize : (sizeOf e).run P w = .ok (Elt.sz α) w := hL.size w
      by_cases h0 : n * Elt.sz α = 0
      · have := hfill #[] (by simp [h0])
        have hr0 : Array.range 0 = #[] := by apply Array.ext'; simp
        simp [execOp, Instr.buildSlice, run_underlying ht.eq, hsize, hL2, hlim, h0, hr0, newRow, this]
      · have hzv : (zeroValue e).run P w = .ok z w := by simp [zeroValue, typeInfo, i1, i2]
        have := hfill ((Array.range (n * Elt.sz α)).map (z.cells[· % z.cells.size]!)) (by simp)
        simp [execOp, Instr.buildSlice, run_underlying ht.eq, hsize, hL2, hlim, h0, hzv, newRow, this]) (fun v _ => k v)

/-- the zero value of a type's elements -/
class ZeroE (α : Type) [Elt α] (zs : List Value) (z : outParam α) : Prop where
  eq : Elt.enc z = zs
instance zeroE_int : ZeroE Int [.int .i64 0] 0 := ⟨rfl⟩
instance zeroE_u64 : ZeroE (BitVec 64) [.int .u64 0] 0#64 := ⟨rfl⟩
instance zeroE_byte : ZeroE (BitVec 8) [.int .u8 0] 0#8 := ⟨rfl⟩
instance zeroE_bool : ZeroE Bool [.bool false] false := ⟨rfl⟩
theorem made_rep {zs : List Value} {z0 : α} [hz : ZeroE α zs z0] (n : Nat) : (madeCells zs.toArray (n * Elt.sz α)).toList = encs (List.replicate n z0) := by
  have hl : zs.length = Elt.sz α := by rw [← hz.eq, Elt.len]
  have hp := Elt.pos (α := α)
  apply List.ext_getElem
  · simp [madeCells, encs_length]
  · intro k h1 h2
    rw [encs_length, List.length_replicate] at h2
    have hj : k / Elt.sz α < n := (Nat.div_lt_iff_lt_mul hp).2 h2
    have ho : k % Elt.sz α < Elt.sz α := Nat.mod_lt _ hp
    have e1 := encs_get (l := List.replicate n z0) (j := k / Elt.sz α) (o := k % Elt.sz α) (by simpa using hj) ho
    rw [Nat.mul_comm, Nat.div_add_mod] at e1
    have e2 : (encs (List.replicate n z0))[k]? = some (zs[k % Elt.sz α]'(by rw [hl]; exact ho)) := by
      rw [e1]
      simp only [List.getElem_replicate, hz.eq]
      exact List.getElem?_eq_getElem _
    have e3 := (List.getElem?_eq_some_iff.1 e2).2
    rw [e3]
    have hlt : k % Elt.sz α < zs.length := by rw [hl]; exact ho
    simp [madeCells, hl, List.getElem?_eq_getElem hlt]
/-- make([]T, n) -/
theorem G_makeR {t e : TypeId} {zs : List Value} {bs : Nat} {x y : Operand} {kx ky : IntKind} {i : Int} {n : Nat} {sd : Prop} {z0 : α} [ht : Und P t (.slice e)] [hL : Lay P e α] [hR : Rw P e zs bs] [hz : ZeroE α zs z0] (hx : ev s x = some (.int kx i)) (hy : ev s y = some (.int ky i)) (hN : Nat.blt d N = true) [hn : NatR i n sd]
    (k : ∀ v, G ro P N D w0 O ops lo ((d, v) :: s) (row v e (List.replicate n z0) :: m) Q) (hs : sd ∧ n * bs ≤ 140737488355328 := by first | exact trivial | omega | (simp only [true_and, and_true, and_self]; omega) | exact ⟨trivial, rfl⟩ | exact ⟨rfl, rfl, by decide⟩ | rfl | (simp only [true_and, and_true, and_self]; done) | decide | assumption | exact ⟨by assumption, by omega⟩ | exact ⟨by assumption, by assumption⟩ | exact ⟨by assumption, by assumption, by omega⟩) :
    G ro P N D w0 O ops (⟨some d, .makeSlice t x y, ty, pos, af, none⟩ :: lo) s m Q :=
  G_any (ι := Value) id (fun v => row v e (List.replicate n z0) :: m) (fun _ => True) rfl rfl (by simp) hN (fun a w hs' hm => by
    obtain ⟨i', z, i1, i2, i3, i4, i5⟩ := hR.info
    have hzl := Lay.zs (α := α) (e := e) (P := P) (zs := zs) (bs := bs) w
    have e1 := hn.eq hs.1
    subst e1
    have hmul : n ≤ n * bs := Nat.le_mul_of_pos_right _ hR.bpos
    obtain ⟨w', h1, h2, h3⟩ := run_make_full (P := P) w 0 t e i' z (Elt.sz α) ht.eq i1 i2 (by rw [i3, hzl]) kx ky n (by rw [i4, Nat.mul_comm]; omega) (by simp only [maxLen]; omega) (Nat.zero_le _)
    rw [i5, made_rep (z0 := z0) n] at h2
    refine ⟨.slice (some ⟨w.heap.size, 0, none⟩) n n, w', trivial, by simp [execOp, hs'.ev hx, hs'.ev hy, h1], ?_⟩
    have e2 : row (.slice (some ⟨w.heap.size, 0, none⟩) n n) e (List.replicate n z0) = .own (.slice (some ⟨w.heap.size, 0, none⟩) n n) e (Elt.sz α) n (encs (List.replicate n z0)) := by simp [row]
    rw [e2]
    refine hm.grow (m' := [_]) ⟨h3.os, h3.tape, h3.output, h3.size, fun k hk _ => h3.block k hk (by simp), fun x hx => ?_, by simp [As.foot, Value.ownBlock], fun b hb => ?_⟩
    · simp only [List.mem_singleton] at hx
      subst hx
      exact h2
    · simp [As.foot, Value.ownBlock] at hb
      subst hb
      exact .inl (Nat.le_refl _)) (fun v _ => k v)

/-- the place of an element -/
theorem G_idxR {t e : TypeId} {x y : Operand} {v : Value} {kx : IntKind} {i : Int} {j : Nat} {sd : Prop} {l : List α} [ht : Und P t (.slice e)] [hL : Lay P e α] (hx : ev s x = some v) (hy : ev s y = some (.int kx i)) (hN : Nat.blt d N = true)
    [h : RdR w0 O m v l] [hj : NatR i j sd] (k : [Fct (j < l.length)] → G ro P N D w0 O ops lo ((d, .pointer (some (elP α v j))) :: s) m Q) (hs : sd ∧ j < l.length := by first | exact trivial | omega | (simp only [true_and, and_true, and_self]; omega) | exact ⟨trivial, rfl⟩ | exact ⟨rfl, rfl, by decide⟩ | rfl | (simp only [true_and, and_true, and_self]; done) | decide | assumption | exact ⟨by assumption, by omega⟩ | exact ⟨by assumption, by assumption⟩ | exact ⟨by assumption, by assumption, by omega⟩) :
    G ro P N D w0 O ops (⟨some d, .indexAddr t x y, ty, pos, af, none⟩ :: lo) s m Q :=
  G_val _ rfl rfl (by simp) hN (fun a w hs' hm => by
    obtain ⟨A, c, rfl, h1, h2, h3⟩ := (h.rd w hm).form
    obtain ⟨ad, rfl, _⟩ := h3 (by omega)
    have e1 := hj.eq hs.1
    subst e1
    have hjn : (j : Int) < (l.length : Int) := by omega
    have hj0 : (0 : Int) ≤ (j : Int) := by omega
    simp only [execOp, Instr.indexAt, hs'.ev hx, hs'.ev hy, asIntOf, run_underlying ht.eq, hL.size, Sem.run_bind, Sem.run_pure, Result.andThen, hjn, hj0, and_self, if_true, Int.toNat_natCast, elP, elA]) (@k ⟨hs.2⟩)

/-- what a place holds -/
class LdR (P : Program) (w0 : World) (O : List Nat) (m : List As) (t : TypeId) (a : Addr) (r : outParam Value) : Prop where
  ld : ∀ w, St w0 O m w → (Instr.loadAt t (.pointer (some a))).run P w = .ok r w
instance ldR_elem {t : TypeId} {v : Value} {j : Nat} {l : List α} [hL : Lay P t α] [h : RdR w0 O m v l] [hj : Fct (j < l.length)] {u : Value} [hv : ValR (l[j]'hj.out) u] : LdR P w0 O m t (elP α v j) u := ⟨fun w hw => by
  rw [← hv.eq]
  exact hL.load w _ _ fun o u hu => (h.rd w hw).cell hj.out hu⟩
/-- a part of a value, that lies at a place -/
class FldE (α : Type) [Elt α] (off : Nat) (β : outParam Type) [i : outParam (Elt β)] (f : outParam (α → β)) : Prop where
  eq : ∀ a : α, ((Elt.enc a).drop off).take (Elt.sz β) = Elt.enc (f a)
instance ldR_field {t : TypeId} {v : Value} {j off : Nat} {l : List α} {β : Type} [Elt β] {f : α → β} [h : RdR w0 O m v l] [hj : Fct (j < l.length)] [hf : FldE α off β f] [hL : Lay P t β] {u' : Value} [hv : ValR (f (l[j]'hj.out)) u'] : LdR P w0 O m t ((elP α v j).add off) u' := ⟨fun w hw => by
  rw [← hv.eq]
  refine hL.load w _ _ fun o u hu => ?_
  rw [addr_addadd]
  refine (h.rd w hw).cell hj.out ?_
  rw [← hf.eq, List.getElem?_take] at hu
  split at hu
  · rw [List.getElem?_drop] at hu; exact hu
  · cases hu⟩

theorem G_ldR {t : TypeId} {x : Operand} {a : Addr} {r : Value} (hx : ev s x = some (.pointer (some a))) (hN : Nat.blt d N = true) [h : LdR P w0 O m t a r] (k : G ro P N D w0 O ops lo ((d, r) :: s) m Q) :
    G ro P N D w0 O ops (⟨some d, .load t x, ty, pos, af, none⟩ :: lo) s m Q :=
  G_val _ rfl rfl (by simp) hN (fun a' w hs hm => by simp [execOp, hs.ev hx, h.ld w hm]) k

/-- an element is written -/
theorem G_stR {t : TypeId} {z u : Value} {x y : Operand} {v : Value} {j : Nat} {l : List α} {a : α} {mk : List As} [hL : Lay P t α] [hsc : Scal α] [hS : Sc P t z] (hx : ev s x = some (.pointer (some (elP α v j)))) (hy : ev s y = some u)
    [ho : OwnR v m t l mk] [hj : Fct (j < l.length)] {side : Prop} [hd0 : DecE α u a side] (k : G ro P N D w0 O ops lo s (row v t (l.set j a) :: mk) Q) (hsd : side := by first | exact trivial | decide | omega) : G ro P N D w0 O ops (⟨none, .store t x y, ty, pos, af, none⟩ :: lo) s m Q :=
  G_ent ho.ent (by
    have hlt := hj.out
    have hd := hd0.eq hsd
    refine G_unown (e := t) (v := v) (n := l.length) (sz := Elt.sz α) (xs := encs l) Take.here (by omega) fun g cap cur ev' hcap hmax hcur htk => ?_
    subst ev'
    have h1 : Elt.sz α = 1 := hsc.sz
    rw [h1, Nat.mul_one] at htk hcur
    have hun : u.oneCell' = true := by rw [hd]; exact Elt.one a _ (by rw [hsc.enc]; simp)
    have hll : (encs l).length = l.length := by rw [encs_length, h1, Nat.mul_one]
    have e1 : elP α (.slice (some ⟨g, 0, none⟩) l.length cap) j = ⟨g, j, none⟩ := by
      simp only [elP, elA, addr_add, h1, Nat.mul_one, Nat.zero_add]
    rw [e1] at hx
    refine G_store (b := g) (off := j) (cs := cur) (e := t) hx hy hun (take_cell htk (by omega)) rfl ?_
    refine G_reown (n := l.length) (cap := cap) (sz := 1) Take.here hcap hmax (by simpa using hcur) ?_
    rw [Nat.mul_one, Array.toList_setIfInBounds, List.take_set, htk]
    have e2 : As.own (.slice (some ⟨g, 0, none⟩) l.length cap) t 1 l.length ((encs l).set j u) = row (.slice (some ⟨g, 0, none⟩) l.length cap) t (l.set j a) := by
      unfold row
      rw [h1, List.length_set]
      congr 1
      rw [encs_set l j a hlt, h1, hsc.enc, ← hd, Nat.mul_one, List.set_eq_take_append_cons_drop, if_pos (by omega)]
      simp
    rw [e2]
    exact k)

/-- v[lo:hi] -/
theorem G_cutR {t e : TypeId} {x : Operand} {v : Value} {l : List α} (lo? hi? : Option Operand) (a b : Nat) [ht : Und P t (.slice e)] [hL : Lay P e α] (hx : ev s x = some v) (hN : Nat.blt d N = true) [h : RdR w0 O m v l]
    (hl : (∃ o i sd, lo? = some o ∧ ev s o = some (I i) ∧ ∃ _ : NatR i a sd, sd) ∨ (lo? = none ∧ a = 0)) (hh : (∃ o i sd, hi? = some o ∧ ev s o = some (I i) ∧ ∃ _ : NatR i b sd, sd) ∨ (hi? = none ∧ b = l.length)) (hs : a ≤ b ∧ b ≤ l.length)
    (k : [Fct (a ≤ b ∧ b ≤ l.length)] → G ro P N D w0 O ops lo ((d, cut α v a b) :: s) m Q) :
    G ro P N D w0 O ops (⟨some d, .slice t x lo? hi? none, ty, pos, af, none⟩ :: lo) s m Q := by
  refine G_val _ rfl rfl (by simp) hN (fun ac w hs' hm => ?_) (@k ⟨hs⟩)
  obtain ⟨A, c, rfl, hc, _⟩ := (h.rd w hm).form
  have b1 : ∀ (k : Nat) (hk : b ≤ k) (cd : BoundsCode), (Instr.sliceBound (I b) k cd).run P w = .ok b w := fun k hk cd => by
    have : (0 : Int) ≤ (b : Int) ∧ (b : Int) ≤ (k : Int) := by omega
    simp only [Instr.sliceBound, asIntOf, Sem.run_bind, Sem.run_pure, Result.andThen, if_pos this, Int.toNat_natCast]
  have b2 : ∀ (cd : BoundsCode), (Instr.sliceBound (I a) b cd).run P w = .ok a w := fun cd => by
    have : (0 : Int) ≤ (a : Int) ∧ (a : Int) ≤ (b : Int) := by omega
    simp only [Instr.sliceBound, asIntOf, Sem.run_bind, Sem.run_pure, Result.andThen, if_pos this, Int.toNat_natCast]
  have b3 : (Instr.sliceBounds true l.length c (lo?.map ac.eval) (hi?.map ac.eval) none).run P w = .ok (a, b, c) w := by
    have hh' : hi?.map ac.eval = some (I b) ∨ (hi?.map ac.eval = none ∧ b = l.length) := by
      rcases hh with ⟨o, i, sd, rfl, h1, hn, h2⟩ | ⟨rfl, h⟩
      · left; simp [hs'.ev h1, hn.eq h2]
      · right; exact ⟨rfl, h⟩
    have hl' : lo?.map ac.eval = some (I a) ∨ (lo?.map ac.eval = none ∧ a = 0) := by
      rcases hl with ⟨o, i, sd, rfl, h1, hn, h2⟩ | ⟨rfl, h⟩
      · left; simp [hs'.ev h1, hn.eq h2]
      · right; exact ⟨rfl, h⟩
    rcases hl' with hl' | ⟨hl', rfl⟩ <;> rcases hh' with hh' | ⟨hh', rfl⟩ <;> rw [hl', hh'] <;> simp [Instr.sliceBounds, b1 c (by omega), b2]
  simp only [execOp, hs'.ev hx, Option.map_none, Instr.sliceAt, Instr.slice, Sem.run_bind, run_underlying ht.eq, Result.andThen, b3, hL.size, Sem.run_pure, cut]

theorem G_cutLo {t e : TypeId} {x y : Operand} {v : Value} {l : List α} {i : Int} {a : Nat} {sd : Prop} [ht : Und P t (.slice e)] [hL : Lay P e α] (hx : ev s x = some v) (hy : ev s y = some (I i)) (hN : Nat.blt d N = true) [h : RdR w0 O m v l] [hn : NatR i a sd]
    (k : [Fct (a ≤ l.length ∧ l.length ≤ l.length)] → G ro P N D w0 O ops lo ((d, cut α v a l.length) :: s) m Q) (hs : sd ∧ a ≤ l.length := by first | exact trivial | omega | (simp only [true_and, and_true, and_self]; omega) | exact ⟨trivial, rfl⟩ | exact ⟨rfl, rfl, by decide⟩ | rfl | (simp only [true_and, and_true, and_self]; done) | decide | assumption | exact ⟨by assumption, by omega⟩ | exact ⟨by assumption, by assumption⟩ | exact ⟨by assumption, by assumption, by omega⟩) :
    G ro P N D w0 O ops (⟨some d, .slice t x (some y) none none, ty, pos, af, none⟩ :: lo) s m Q :=
  G_cutR (some y) none a l.length hx hN (.inl ⟨y, i, sd, rfl, hy, hn, hs.1⟩) (.inr ⟨rfl, rfl⟩) ⟨hs.2, Nat.le_refl _⟩ k
theorem G_cutHi {t e : TypeId} {x y : Operand} {v : Value} {l : List α} {i : Int} {b : Nat} {sd : Prop} [ht : Und P t (.slice e)] [hL : Lay P e α] (hx : ev s x = some v) (hy : ev s y = some (I i)) (hN : Nat.blt d N = true) [h : RdR w0 O m v l] [hn : NatR i b sd]
    (k : [Fct (0 ≤ b ∧ b ≤ l.length)] → G ro P N D w0 O ops lo ((d, cut α v 0 b) :: s) m Q) (hs : sd ∧ b ≤ l.length := by first | exact trivial | omega | (simp only [true_and, and_true, and_self]; omega) | exact ⟨trivial, rfl⟩ | exact ⟨rfl, rfl, by decide⟩ | rfl | (simp only [true_and, and_true, and_self]; done) | decide | assumption | exact ⟨by assumption, by omega⟩ | exact ⟨by assumption, by assumption⟩ | exact ⟨by assumption, by assumption, by omega⟩) :
    G ro P N D w0 O ops (⟨some d, .slice t x none (some y) none, ty, pos, af, none⟩ :: lo) s m Q :=
  G_cutR none (some y) 0 b hx hN (.inr ⟨rfl, rfl⟩) (.inl ⟨y, i, sd, rfl, hy, hn, hs.1⟩) ⟨Nat.zero_le _, hs.2⟩ k
theorem G_cutBoth {t e : TypeId} {x y z : Operand} {v : Value} {l : List α} {i i' : Int} {a b : Nat} {sd sd' : Prop} [ht : Und P t (.slice e)] [hL : Lay P e α] (hx : ev s x = some v) (hy : ev s y = some (I i)) (hz : ev s z = some (I i')) (hN : Nat.blt d N = true) [h : RdR w0 O m v l] [hn : NatR i a sd] [hn' : NatR i' b sd']
    (k : [Fct (a ≤ b ∧ b ≤ l.length)] → G ro P N D w0 O ops lo ((d, cut α v a b) :: s) m Q) (hs : (sd ∧ sd') ∧ a ≤ b ∧ b ≤ l.length := by first | exact trivial | omega | (simp only [true_and, and_true, and_self]; omega) | exact ⟨trivial, rfl⟩ | exact ⟨rfl, rfl, by decide⟩ | rfl | (simp only [true_and, and_true, and_self]; done) | decide | assumption | exact ⟨by assumption, by omega⟩ | exact ⟨by assumption, by assumption⟩ | exact ⟨by assumption, by assumption, by omega⟩) :
    G ro P N D w0 O ops (⟨some d, .slice t x (some y) (some z) none, ty, pos, af, none⟩ :: lo) s m Q :=
  G_cutR (some y) (some z) a b hx hN (.inl ⟨y, i, sd, rfl, hy, hn, hs.1.1⟩) (.inl ⟨z, i', sd', rfl, hz, hn', hs.1.2⟩) hs.2 k
end
end Go.Proofs.Ytjdbdjmfimbbkaa
