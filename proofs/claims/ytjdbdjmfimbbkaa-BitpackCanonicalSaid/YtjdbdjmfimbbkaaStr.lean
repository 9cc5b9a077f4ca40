/- Structs and variables in memory, by classes. -/
import Derived.Test.YtjdbdjmfimbbkaaDrw
import Derived.Laws.Tables
set_option linter.unusedVariables false
set_option linter.unusedSimpArgs false
namespace Go.Proofs.Ytjdbdjmfimbbkaa
open Go.RowKit

/-! ### Values of one cell; the cells of a value -/
/-- v is a slice's value. -/
class SlcR (w0 : World) (O : List Nat) (m : List As) (v : Value) : Prop where
  slc : ∀ w, St w0 O m w → ∃ A n c, v = .slice A n c
class OneW (w0 : World) (O : List Nat) (m : List As) (v : Value) : Prop where
  one : ∀ w, St w0 O m w → v.oneCell' = true
class AllW (w0 : World) (O : List Nat) (m : List As) (cs : List Value) : Prop where
  all : ∀ w, St w0 O m w → ∀ c ∈ cs, c.oneCell' = true
class PartR (w0 : World) (O : List Nat) (m : List As) (v : Value) (cs : outParam (List Value)) : Prop where
  part : ∀ w, St w0 O m w → v.cells = cs.toArray ∧ ∀ c ∈ cs, c.oneCell' = true

section
variable {w0 : World} {O : List Nat} {m : List As} {v : Value}
instance (priority := high) slcR_mk (A : Option Addr) (n c : Nat) : SlcR w0 O m (.slice A n c) := ⟨fun _ _ => ⟨A, n, c, rfl⟩⟩
theorem slc_of_rd {α : Type} [Elt α] {w : World} {l : List α} (h : RdL w v l) : ∃ A n c, v = .slice A n c := by
  obtain ⟨A, c, h, _⟩ := h.form; exact ⟨A, _, c, h⟩
instance (priority := high) slcR_row {α : Type} [Elt α] {e : TypeId} {l : List α} : SlcR w0 O (row v e l :: m) v := ⟨fun w hw => slc_of_rd (rdR_here (w0 := w0) (O := O) (v := v) (e := e) (l := l) (m := m) |>.rd w hw)⟩
instance (priority := high) slcR_lit {α : Type} [Elt α] {e : TypeId} {l : List α} : SlcR w0 O (lit v e l :: m) v := ⟨fun w hw => slc_of_rd (rdR_lit (w0 := w0) (O := O) (v := v) (e := e) (l := l) (m := m) |>.rd w hw)⟩
instance slcR_old {α : Type} [Elt α] {l : List α} [h : RdOld w0 O v l] : SlcR w0 O m v := ⟨fun w hw => slc_of_rd (h.old.now w hw : RdL w v l)⟩
instance slcR_cut {α : Type} [Elt α] {lo hi : Nat} [h : SlcR w0 O m v] : SlcR w0 O m (cut α v lo hi) := ⟨fun w hw => by
  obtain ⟨A, n, c, rfl⟩ := h.slc w hw; exact ⟨_, _, _, rfl⟩⟩
instance slcR_clip [h : SlcR w0 O m v] : SlcR w0 O m (clipV v) := ⟨fun w hw => by
  obtain ⟨A, n, c, rfl⟩ := h.slc w hw; exact ⟨_, _, _, rfl⟩⟩
instance (priority := low) slcR_there {x : As} [h : SlcR w0 O m v] : SlcR w0 O (x :: m) v := ⟨fun w hw => h.slc w (hw.drop (List.sublist_cons_self _ _))⟩

instance oneW_int (k : IntKind) (n : Int) : OneW w0 O m (.int k n) := ⟨fun _ _ => rfl⟩
instance oneW_bool (b : Bool) : OneW w0 O m (.bool b) := ⟨fun _ _ => rfl⟩
instance oneW_str (b : ByteArray) : OneW w0 O m (.string b) := ⟨fun _ _ => rfl⟩
instance oneW_ptr (b : Option Addr) : OneW w0 O m (.pointer b) := ⟨fun _ _ => rfl⟩
instance oneW_map (b : Option Nat) : OneW w0 O m (.map b) := ⟨fun _ _ => rfl⟩
instance oneW_func (f : Fn) (a b : Array Value) : OneW w0 O m (.func f a b) := ⟨fun _ _ => rfl⟩
instance oneW_nilFunc : OneW w0 O m .nilFunc := ⟨fun _ _ => rfl⟩
instance oneW_nilIface : OneW w0 O m .nilIface := ⟨fun _ _ => rfl⟩
instance oneW_iface (t : TypeId) (v : Value) : OneW w0 O m (.iface t v) := ⟨fun _ _ => rfl⟩
instance (priority := low) oneW_slc [h : SlcR w0 O m v] : OneW w0 O m v := ⟨fun w hw => by obtain ⟨A, n, c, rfl⟩ := h.slc w hw; rfl⟩
instance allW_nil : AllW w0 O m [] := ⟨fun _ _ c h => by simp at h⟩
instance allW_cons {c : Value} {cs : List Value} [h : OneW w0 O m c] [h' : AllW w0 O m cs] : AllW w0 O m (c :: cs) := ⟨fun w hw x hx => by
  rcases List.mem_cons.1 hx with rfl | hx
  · exact h.one w hw
  · exact h'.all w hw x hx⟩
instance partR_agg {cs : List Value} [h : AllW w0 O m cs] : PartR w0 O m (.agg cs.toArray) cs := ⟨fun w hw => ⟨rfl, h.all w hw⟩⟩
instance (priority := low) partR_one [h : OneW w0 O m v] : PartR w0 O m v [v] := ⟨fun w hw => ⟨cells_one (h.one w hw), fun c hc => by
  rw [List.mem_singleton.1 hc]; exact h.one w hw⟩⟩
end
/-- the cells of several values, with where they belong -/
class PartsR (w0 : World) (O : List Nat) (m : List As) (vs : List (Nat × Value)) (ics : outParam (List (Nat × List Value))) : Prop where
  parts : ∀ w, St w0 O m w → vs.map (fun x => (x.1, x.2.cells)) = ics.map (fun x => (x.1, x.2.toArray)) ∧ ∀ x ∈ ics, ∀ c ∈ x.2, c.oneCell' = true
instance partsR_nil {w0 : World} {O : List Nat} {m : List As} : PartsR w0 O m [] [] := ⟨fun _ _ => ⟨rfl, fun _ h => by simp at h⟩⟩
instance partsR_cons {w0 : World} {O : List Nat} {m : List As} {i : Nat} {v : Value} {cs : List Value} {vs : List (Nat × Value)} {ics : List (Nat × List Value)} [h : PartR w0 O m v cs] [h' : PartsR w0 O m vs ics] : PartsR w0 O m ((i, v) :: vs) ((i, cs) :: ics) := ⟨fun w hw => by
  obtain ⟨h1, h2⟩ := h.part w hw
  obtain ⟨h3, h4⟩ := h'.parts w hw
  refine ⟨by simp [h1, h3], fun x hx => ?_⟩
  rcases List.mem_cons.1 hx with rfl | hx
  · exact h2
  · exact h4 x hx⟩

/-! ### Cells laid over cells -/
def splice : Nat → List Value → List Value → List Value
  | 0, [], zs => zs
  | 0, u :: us, _ :: zs => u :: splice 0 us zs
  | n + 1, us, z :: zs => z :: splice n us zs
  | _, _, [] => []
theorem splice_eq : ∀ (off : Nat) (us zs : List Value), off + us.length ≤ zs.length → splice off us zs = zs.take off ++ us ++ zs.drop (off + us.length)
  | 0, [], zs, _ => by unfold splice; simp
  | 0, u :: us, z :: zs, h => by
    unfold splice
    simp only [List.length_cons] at h
    rw [splice_eq 0 us zs (by omega)]
    simp only [List.take_zero, List.nil_append, Nat.zero_add, List.length_cons, List.drop_succ_cons, List.cons_append]
  | 0, u :: us, [], h => by simp at h
  | n + 1, us, z :: zs, h => by
    unfold splice
    simp only [List.length_cons] at h
    rw [splice_eq n us zs (by omega)]
    simp only [List.take_succ_cons, List.cons_append, show n + 1 + us.length = (n + us.length) + 1 by omega, List.drop_succ_cons]
  | n + 1, us, [], h => by simp at h

theorem foldl_splice : ∀ (us : List Value) (k off : Nat) (cs : List Value), off + k + us.length ≤ cs.length →
    ((us.zipIdx k).foldl (fun (cs : Array Value) (x : Value × Nat) => cs.setIfInBounds (off + x.2) x.1) cs.toArray) = (splice (off + k) us cs).toArray
  | [], k, off, cs, h => by
    rw [splice_eq _ _ _ h]; simp
  | u :: us, k, off, cs, h => by
    simp only [List.length_cons] at h
    simp only [List.zipIdx_cons, List.foldl_cons]
    have e1 : cs.toArray.setIfInBounds (off + k) u = (cs.set (off + k) u).toArray := by apply Array.ext'; simp
    rw [e1, foldl_splice us (k + 1) off _ (by simp; omega), splice_eq _ _ _ (by simp; omega), splice_eq _ _ _ (by simp; omega)]
    congr 1
    have hlt : off + k < cs.length := by omega
    rw [show off + (k + 1) = off + k + 1 by omega, List.take_succ_eq_append_getElem (by simpa using hlt), List.take_set, List.getElem_set_self, List.set_eq_of_length_le (by simp; omega), List.drop_set, if_pos (by omega)]
    simp only [List.length_cons, List.append_assoc, List.singleton_append, List.cons_append, List.nil_append]
    rw [show off + k + 1 + us.length = off + k + (us.length + 1) by omega]

def fillC (places : List (Nat × Nat)) : List Value → List (Nat × List Value) → Option (List Value)
  | zs, [] => some zs
  | zs, (i, us) :: r => match places[i]? with
    | none => none
    | some p => bif Nat.beq us.length p.2 && Nat.ble (p.1 + us.length) zs.length then fillC places (splice p.1 us zs) r else none
theorem fillC_fill {pl : Nat → Option (Nat × Nat)} {places : List (Nat × Nat)} (hpl : ∀ i p, places[i]? = some p → pl i = some p) : ∀ (ics : List (Nat × List Value)) (vs : List (Nat × Value)) (zs cs : List Value),
    vs.map (fun x => (x.1, x.2.cells)) = ics.map (fun x => (x.1, x.2.toArray)) → fillC places zs ics = some cs → Instr.fill pl zs.toArray vs = some cs.toArray
  | [], [], zs, cs, _, h => by simp only [fillC, Option.some.injEq] at h; subst h; rfl
  | [], _ :: _, _, _, h, _ => by simp at h
  | _ :: _, [], _, _, h, _ => by simp at h
  | (i, us) :: r, (j, v) :: vs, zs, cs, hm, h => by
    simp only [List.map_cons, List.cons.injEq, Prod.mk.injEq] at hm
    obtain ⟨⟨rfl, hv⟩, hm⟩ := hm
    unfold fillC at h
    split at h
    · cases h
    · rename_i p hp
      cases hc : (Nat.beq us.length p.2 && Nat.ble (p.1 + us.length) zs.length) with
      | false => rw [hc] at h; simp at h
      | true =>
        rw [hc] at h
        simp only [cond_true] at h
        simp only [Bool.and_eq_true] at hc
        have h1 := Nat.eq_of_beq_eq_true hc.1
        have h2 := Nat.le_of_ble_eq_true hc.2
        rw [Instr.fill, hpl j p hp]
        obtain ⟨off, n⟩ := p
        simp only at h1 h2 h ⊢
        have hcond : ¬ ((v.cells.size ≠ n || decide (off + v.cells.size > zs.toArray.size)) = true) := by
          rw [hv]; simp; omega
        rw [if_neg (by simpa using hcond), hv]
        have := foldl_splice us 0 off zs (by omega)
        simp only [Nat.add_zero] at this
        have e2 : (us.toArray.zipIdx.foldl (fun cs (x : Value × Nat) => cs.setIfInBounds (off + x.2) x.1) zs.toArray) = (splice off us zs).toArray := by
          rw [← this, ← Array.foldl_toList]; simp
        have e3 := fillC_fill hpl r vs _ cs hm h
        rw [← e2] at e3
        exact e3

/-- a struct's, an array's parts: where they lie, of how many cells; the zero value's cells -/
class BldI (P : Program) (t : TypeId) (places : outParam (List (Nat × Nat))) (zs : outParam (List Value)) : Prop where
  run : ∀ (parts : List (Nat × Value)) (ics : List (Nat × List Value)) (cs : List Value) (w : World), parts.map (fun x => (x.1, x.2.cells)) = ics.map (fun x => (x.1, x.2.toArray)) → fillC places zs ics = some cs → (Instr.build t parts.toArray).run P w = .ok (.agg cs.toArray) w

theorem BldI.of_struct {P : Program} {t : TypeId} {places : List (Nat × Nat)} {zs : List Value} [hA : Ag P t zs] (h : (match P.underlying t with | some (.struct fs) => fs.toList.mapM (fun f => (P.info? f.type).map fun i => (f.offset, i.size)) | _ => none) = some places) : BldI P t places zs := ⟨fun parts ics cs w hm hf => by
  obtain ⟨i, h1, h2, h3⟩ := hA.info
  have hfill := fillC_fill (pl := fun i => places.toArray[i]?) (fun i p hp => by simpa using hp) ics parts zs cs hm hf
  refine run_build w t _ _ ?_
  split at h
  · rename_i fs hu
    simp only [Program.built, h1, hu, h2, h]
    simpa [Value.cells] using hfill
  · cases h⟩
theorem BldI.of_array {P : Program} {t e : TypeId} {n s : Nat} {places : List (Nat × Nat)} {zs : List Value} [hA : Ag P t zs] (hu : P.underlying t = some (.array n e)) (he : (P.info? e).map (·.size) = some s) (hp : (List.range n).map (fun i => (i * s, s)) = places) : BldI P t places zs := ⟨fun parts ics cs w hm hf => by
  obtain ⟨i, h1, h2, h3⟩ := hA.info
  cases hie : P.info? e with
  | none => rw [hie] at he; cases he
  | some ie =>
    rw [hie] at he
    simp only [Option.map_some, Option.some.injEq] at he
    subst he
    have hfill := fillC_fill (pl := fun i => some (i * ie.size, ie.size)) (fun i p hip => by
      subst hp
      rw [List.getElem?_map] at hip
      cases hr : (List.range n)[i]? with
      | none => rw [hr] at hip; cases hip
      | some q =>
        rw [hr] at hip
        simp only [Option.map_some, Option.some.injEq] at hip
        have hq : q = i := by
          obtain ⟨hl, hq⟩ := List.getElem?_eq_some_iff.1 hr
          rw [List.getElem_range] at hq; exact hq.symm
        subst hq; rw [← hip]) ics parts zs cs hm hf
    refine run_build w t _ _ ?_
    simp only [Program.built, h1, hu, h2, hie]
    simpa [Value.cells] using hfill⟩

/-! ### The rules -/
section
variable {ro : Option Nat} {P : Program} {N : Nat} {D : List Deferred} {w0 : World} {O : List Nat} {ops : Array Oper} {l : List Oper} {s : List (Nat × Value)} {m : List As} {Q : Exit → Act → World → Prop}
variable {d : Nat} {ty : TypeId} {pos : String} {af : Array Edge}

/-- a variable's box -/
theorem G_boxR {t : TypeId} {x : Operand} {v : Value} {cs : List Value} (hx : ev s x = some v) (hN : Nat.blt d N = true) [hp : PartR w0 O m v cs] (k : ∀ b, G ro P N D w0 O ops l ((d, .pointer (some ⟨b, 0, none⟩)) :: s) (.box b (.cells cs.toArray t) :: m) Q) :
    G ro P N D w0 O ops (⟨some d, .box t x, ty, pos, af, none⟩ :: l) s m Q := fun a w hs hd hm =>
  G_box hx hN (fun b => by rw [(hp.part w hm).1]; exact k b) a w hs hd hm

def evP (s : List (Nat × Value)) : List (Nat × Operand) → Option (List (Nat × Value))
  | [] => some []
  | (i, x) :: r => match ev s x, evP s r with
    | some v, some vs => some ((i, v) :: vs)
    | _, _ => none
theorem evP_map {s : List (Nat × Value)} {a : Act} (h : Has N s a) : ∀ {xs : List (Nat × Operand)} {vs : List (Nat × Value)}, evP s xs = some vs → xs.map (fun x => (x.1, a.eval x.2)) = vs
  | [], vs, e => by simp [evP] at e; simp [e]
  | (i, x) :: r, vs, e => by
    simp only [evP] at e
    split at e
    · rename_i v us h1 h2
      simp only [Option.some.injEq] at e
      subst e
      simp [h.ev h1, evP_map h h2]
    · cases e
theorem G_buildR {t : TypeId} {parts : Array (Nat × Operand)} {places : List (Nat × Nat)} {zs cs : List Value} {ics : List (Nat × List Value)} {ivs : List (Nat × Value)} [hb : BldI P t places zs] (hv : evP s parts.toList = some ivs) (hN : Nat.blt d N = true) [hp : PartsR w0 O m ivs ics]
    (k : G ro P N D w0 O ops l ((d, .agg cs.toArray) :: s) m Q) (hf : fillC places zs ics = some cs := by (simp only [fillC, splice, List.getElem?_cons_zero, List.getElem?_cons_succ, List.length_cons, List.length_nil, Nat.reduceAdd, Nat.reduceBEq, Nat.beq, Nat.ble, Bool.and_self, Bool.and_true, Bool.true_and, cond_true]; try exact rfl)) : G ro P N D w0 O ops (⟨some d, .build t parts, ty, pos, af, none⟩ :: l) s m Q := fun a w hs hd hm => by
  refine G_val (.agg cs.toArray) rfl rfl (by simp) hN (fun a' w' hs' hm' => ?_) k a w hs hd hm
  have hp' : (parts.map fun (i, x) => (i, a'.eval x)) = ivs.toArray := by
    apply Array.ext'
    rw [← evP_map hs' hv]
    simp
  simp only [execOp, hp', Sem.run_bind, hb.run _ ics cs w' (hp.parts w' hm').1 hf, Result.andThen, Sem.run_pure]

def nthV : List Value → Nat → Option Value
  | [], _ => none
  | v :: _, 0 => some v
  | _ :: r, n + 1 => nthV r n
theorem nthV_eq : ∀ (l : List Value) (n : Nat), nthV l n = l[n]?
  | [], _ => by simp [nthV]
  | v :: r, 0 => by simp [nthV]
  | v :: r, n + 1 => by simp [nthV, nthV_eq r n]
/-- a cell of a variable is read -/
theorem G_loadB {t e : TypeId} {z v : Value} {x : Operand} {b off : Nat} {cs : List Value} {mk : Nat × Nat} [hS : Sc P t z] (hx : ev s x = some (.pointer (some ⟨b, off, none⟩))) [hm : Held b m (.cells cs.toArray e mk)] (hc : nthV cs off = some v) (hN : Nat.blt d N = true)
    (k : G ro P N D w0 O ops l ((d, v) :: s) m Q) : G ro P N D w0 O ops (⟨some d, .load t x, ty, pos, af, none⟩ :: l) s m Q :=
  G_load hx (cs := cs.toArray) (by rw [nthV_eq] at hc; simpa using hc) hN k

/-- the place and the type of a struct's field -/
def fieldTyB (P : Program) (t : TypeId) (i off ft : Nat) : Bool := match P.underlying t with
  | some (.struct fs) => match fs[i]? with
    | some f => f.offset == off && f.type == ft
    | none => false
  | _ => false
class FldI (P : Program) (t : TypeId) (i : Nat) (off ft : outParam Nat) : Prop where
  ok : fieldTyB P t i off ft = true
theorem run_field {P : Program} {w : World} {t : TypeId} {i off ft : Nat} {vs : Array Value} {v : Value} [h : FldI P t i off ft] (hp : (part ft vs off).run P w = .ok v w) : (Instr.field t (.agg vs) i).run P w = .ok v w := by
  have h := h.ok
  unfold fieldTyB at h
  split at h
  · rename_i fs hu
    split at h
    · rename_i f hf
      simp only [Bool.and_eq_true, beq_iff_eq] at h
      obtain ⟨rfl, rfl⟩ := h
      simp [Instr.field, Ytjdbdjmfimbbkaa.run_underlying hu, hf, asAgg, hp]
    · cases h
  · cases h
/-- a field of a struct's value -/
theorem G_fieldS {t : TypeId} {i off ft : Nat} {z v : Value} {vs : List Value} {x : Operand} [hf : FldI P t i off ft] [hS : Sc P ft z] (hx : ev s x = some (.agg vs.toArray)) (hv : nthV vs off = some v) (hN : Nat.blt d N = true)
    (k : G ro P N D w0 O ops l ((d, v) :: s) m Q) : G ro P N D w0 O ops (⟨some d, .field t x i, ty, pos, af, none⟩ :: l) s m Q :=
  G_field hx (fun w => run_field (by rw [nthV_eq] at hv; simp [part, run_isAgg hS, hv])) hN k
theorem G_fieldG {t : TypeId} {i off ft : Nat} {zs us vs : List Value} {x : Operand} [hf : FldI P t i off ft] [hS : Ag P ft zs] (hx : ev s x = some (.agg vs.toArray)) (hv : (vs.drop off).take zs.length = us) (hN : Nat.blt d N = true)
    (k : G ro P N D w0 O ops l ((d, .agg us.toArray) :: s) m Q) : G ro P N D w0 O ops (⟨some d, .field t x i, ty, pos, af, none⟩ :: l) s m Q :=
  G_field hx (fun w => run_field (by
    have e : vs.toArray.extract off (off + zs.length) = us.toArray := by rw [← hv]; apply Array.ext'; simp [List.extract_eq_take_drop, Nat.add_sub_cancel_left]
    simp [part, run_isAggA hS, run_sizeOfA hS, hv])) hN k
theorem Is_field {t : TypeId} {x : Operand} {i : Nat} (h : G ro P N D w0 O ops (⟨some d, .field t x i, ty, pos, af, none⟩ :: l) s m Q) : G ro P N D w0 O ops (⟨some d, .field t x i, ty, pos, af, none⟩ :: l) s m Q := h

/-- a part of a tuple -/
theorem G_extractT {x : Operand} {i : Nat} {vs : List Value} {v : Value} (hx : ev s x = some (.tuple vs.toArray)) (hi : nthV vs i = some v) (hN : Nat.blt d N = true) (k : G ro P N D w0 O ops l ((d, v) :: s) m Q) :
    G ro P N D w0 O ops (⟨some d, .extract x i, ty, pos, af, none⟩ :: l) s m Q := G_extract hx (by rw [nthV_eq] at hi; simpa using hi) hN k

/-- a cell of a variable is written -/
theorem G_storeW {t e : TypeId} {z v u : Value} {x y : Operand} {b off : Nat} {cs cs' : List Value} {m' : List As} [hS : Sc P t z] (hx : ev s x = some (.pointer (some ⟨b, off, none⟩))) (hy : ev s y = some v)
    [hh : Held b m (.cells cs.toArray e)] [h1 : OneW w0 O m v] (hc : cs[off]? = some u) [hm : PutC b (.cells cs'.toArray e) m m'] (k : G ro P N D w0 O ops l s m' Q) (hcs : cs.set off v = cs' := by (simp only [Nat.zero_add, Nat.add_zero, Nat.reduceAdd, List.set_cons_zero, List.set_cons_succ]; try exact rfl)) : G ro P N D w0 O ops (⟨none, .store t x y, ty, pos, af, none⟩ :: l) s m Q := fun a w hs hd hw =>
  G_store hx hy (h1.one w hw) (b := b) (off := off) (cs := cs.toArray) (u := u) (by simpa using hc) (cs' := cs'.toArray) (by rw [← hcs]; apply Array.ext'; simp) k a w hs hd hw

/-- a whole variable is written -/
theorem G_storeAW {t e : TypeId} {zs vs cs : List Value} {x y : Operand} {b : Nat} {m' : List As} [hS : Ag P t zs] (hx : ev s x = some (.pointer (some ⟨b, 0, none⟩))) (hy : ev s y = some (.agg vs.toArray)) (hl : Nat.beq vs.length zs.length = true)
    [hh : Held b m (.cells cs.toArray e)] [h1 : AllW w0 O m vs] [hm : PutC b (.cells vs.toArray e) m m'] (hc : Nat.beq cs.length zs.length = true) (k : G ro P N D w0 O ops l s m' Q) : G ro P N D w0 O ops (⟨none, .store t x y, ty, pos, af, none⟩ :: l) s m Q := fun a w hs hd hw =>
  G_storeA (vs := vs) hx hy hl (by simpa using h1.all w hw) (cs := cs.toArray) (by simpa using Nat.eq_of_beq_eq_true hc) k a w hs hd hw

/-- a whole variable is read -/
theorem G_loadA0 {t e : TypeId} {zs cs : List Value} {x : Operand} {b : Nat} {mk : Nat × Nat} [hS : Ag P t zs] (hx : ev s x = some (.pointer (some ⟨b, 0, none⟩))) [hm : Held b m (.cells cs.toArray e mk)]
    (hl : Nat.beq cs.length zs.length = true) (hN : Nat.blt d N = true) (k : G ro P N D w0 O ops l ((d, .agg cs.toArray) :: s) m Q) : G ro P N D w0 O ops (⟨some d, .load t x, ty, pos, af, none⟩ :: l) s m Q :=
  G_loadA (vs := cs) hx (by simp [← Nat.eq_of_beq_eq_true hl]) hl hN k
/-- a struct within a variable is read -/
theorem G_loadAP {t e : TypeId} {zs cs vs : List Value} {x : Operand} {b off : Nat} {mk : Nat × Nat} [hS : Ag P t zs] (hx : ev s x = some (.pointer (some ⟨b, off, none⟩))) [hm : Held b m (.cells cs.toArray e mk)] (hN : Nat.blt d N = true)
    (k : G ro P N D w0 O ops l ((d, .agg vs.toArray) :: s) m Q) (hv : (cs.drop off).take zs.length = vs := by (simp only [Nat.zero_add, Nat.add_zero, List.drop_succ_cons, List.drop_zero, List.take_succ_cons, List.take_zero, List.length_cons, List.length_nil, Nat.reduceAdd]; try exact rfl)) (hl : Nat.beq vs.length zs.length = true := by rfl) : G ro P N D w0 O ops (⟨some d, .load t x, ty, pos, af, none⟩ :: l) s m Q :=
  G_loadA (vs := vs) hx (by simpa using hv) hl hN k
end

/-! ### Strings -/
/-- a string's byte -/
def byteAt (l : List UInt8) (j : Nat) : BitVec 8 := (l.getD j 0).toBitVec
section
variable {ro : Option Nat} {P : Program} {N : Nat} {D : List Deferred} {w0 : World} {O : List Nat} {ops : Array Oper} {lo : List Oper} {s : List (Nat × Value)} {m : List As} {Q : Exit → Act → World → Prop}
variable {d : Nat} {ty : TypeId} {pos : String} {af : Array Edge}
theorem G_strIdx {t : TypeId} {x y : Operand} {l : List UInt8} {kx : IntKind} {i : Int} {j : Nat} {sd : Prop} [ht : Und P t .string] (hx : ev s x = some (.string ⟨l.toArray⟩)) (hy : ev s y = some (.int kx i)) (hN : Nat.blt d N = true) [hj : NatR i j sd]
    (k : G ro P N D w0 O ops lo ((d, B8 (byteAt l j)) :: s) m Q) (hs : sd ∧ j < l.length := by first | exact trivial | omega | (simp only [true_and, and_true, and_self]; omega) | exact ⟨trivial, rfl⟩ | exact ⟨rfl, rfl, by decide⟩ | rfl | (simp only [true_and, and_true, and_self]; done) | decide | assumption | exact ⟨by assumption, by omega⟩ | exact ⟨by assumption, by assumption⟩ | exact ⟨by assumption, by assumption, by omega⟩) : G ro P N D w0 O ops (⟨some d, .index t x y, ty, pos, af, none⟩ :: lo) s m Q :=
  G_val _ rfl rfl (by simp) hN (fun a w hs' hm => by
    have e1 := hj.eq hs.1
    subst e1
    have h0 : (0 : Int) ≤ (j : Int) := by omega
    have h1 : (⟨l.toArray⟩ : ByteArray)[(j : Int).toNat]? = some l[j] := by
      rw [Int.toNat_natCast, getElem?_pos _ j hs.2]
      rfl
    have e2 : byteAt l j = (l[j]'hs.2).toBitVec := by
      unfold byteAt
      simp [List.getD, hs.2]
    have h2 : (Instr.index t (.string ⟨l.toArray⟩) (.int kx (j : Int))).run P w = .ok (B8 (byteAt l j)) w := by
      rw [e2]
      simp only [Instr.index, asIntOf, Sem.run_bind, Sem.run_pure, Result.andThen, run_underlying ht.eq, h0, if_true, h1]
      rfl
    simp only [execOp, hs'.ev hx, hs'.ev hy, Sem.run_bind, h2, Result.andThen, Sem.run_pure]) k
end

/-! ### Results -/
inductive ResOK (P : Program) (w0 : World) (O : List Nat) (m : List As) (s : List (Nat × Value)) : ResultVar → Value → Prop
  | tmp {t : Nat} {v : Value} (h : look s t = some v) : ResOK P w0 O m s (.tmp t) v
  | cell {t : Nat} {ty e : TypeId} {zs vs : List Value} {b : Nat} {mk : Nat × Nat} [hS : Ag P ty zs] (hv : look s t = some (.pointer (some ⟨b, 0, none⟩))) [hm : Held b m (.cells vs.toArray e mk)] (hl : Nat.beq vs.length zs.length = true) : ResOK P w0 O m s (.cell t ty) (.agg vs.toArray)
  | one {t : Nat} {ty e : TypeId} {z v : Value} {b : Nat} {mk : Nat × Nat} [hS : Sc P ty z] (hv : look s t = some (.pointer (some ⟨b, 0, none⟩))) [hm : Held b m (.cells #[v] e mk)] : ResOK P w0 O m s (.cell t ty) v
inductive ResAll (P : Program) (w0 : World) (O : List Nat) (m : List As) (s : List (Nat × Value)) : List ResultVar → List Value → Prop
  | nil : ResAll P w0 O m s [] []
  | cons {r : ResultVar} {v : Value} {rs : List ResultVar} {vs : List Value} (h : ResOK P w0 O m s r v) (h' : ResAll P w0 O m s rs vs) : ResAll P w0 O m s (r :: rs) (v :: vs)
@[reducible] def retV : List Value → Value
  | [v] => v
  | vs => .tuple vs.toArray

section
variable {P : Program} {N : Nat} {w0 : World} {O : List Nat} {s : List (Nat × Value)} {m : List As}
def resOne (tmps : Array Value) : ResultVar → Sem Value
  | .tmp t => pure (tmps.getD t undef)
  | .cell a t => do loadVar t (← asAddr (tmps.getD a undef))
theorem ResOK.run {r : ResultVar} {v : Value} (h : ResOK P w0 O m s r v) {a : Act} {w : World} (hs : Has N s a) (hw : St w0 O m w) : (resOne a.tmps r).run P w = .ok v w := by
  cases h with
  | tmp h => simp [resOne, hs.at_ _ _ h]
  | @cell t ty e zs vs b mk hS hv hm hl =>
    have h1 : w.heap[b]? = some (.cells vs.toArray e mk) := hw.ok _ hm.mem
    have h2 := run_loadA (P := P) (w := w) (a := ⟨b, 0, none⟩) hS (Nat.eq_of_beq_eq_true hl) (fun j v hj => by
      rw [addr_add]
      simp only [World.cell?, h1]
      simpa using hj)
    simp only [Instr.loadAt, Instr.sureAddr, Sem.run_bind, Sem.run_pure, Result.andThen] at h2
    simp [resOne, hs.at_ _ _ hv, asAddr, h2]
  | @one t ty e z v b mk hS hv hm =>
    have h1 : w.heap[b]? = some (.cells #[v] e mk) := hw.ok _ hm.mem
    have h2 := run_load1 (P := P) (w := w) (a := ⟨b, 0, none⟩) (v := v) hS (by simp [World.cell?, h1])
    simp only [Instr.loadAt, Instr.sureAddr, Sem.run_bind, Sem.run_pure, Result.andThen] at h2
    simp [resOne, hs.at_ _ _ hv, asAddr, h2]
theorem ResAll.run {rs : List ResultVar} {vs : List Value} (h : ResAll P w0 O m s rs vs) {a : Act} {w : World} (hs : Has N s a) (hw : St w0 O m w) : (rs.mapM (m := Sem) (resOne a.tmps)).run P w = .ok vs w := by
  induction h with
  | nil => simp
  | cons h _ ih => simp [List.mapM_cons, h.run hs hw, ih]
theorem run_results {fn : Func} {rs : List ResultVar} {vs : List Value} (hr : fn.results = rs.toArray) (h : ResAll P w0 O m s rs vs) {a : Act} {w : World} (hs : Has N s a) (hw : St w0 O m w) : (results fn a.tmps).run P w = .ok (retV vs) w := by
  have h1 := h.run hs hw
  have h2 : ∀ f : ResultVar → Sem Value, (∀ x, f x = resOne a.tmps x) → (rs.toArray.mapM (m := Sem) f).run P w = .ok vs.toArray w := fun f hf => by
    obtain rfl : f = resOne a.tmps := funext hf
    rw [Array.mapM_eq_mapM_toList]; simp [h1]
  unfold results
  rw [hr]
  simp only [Sem.run_bind]
  rw [h2 _ (fun x => by cases x <;> rfl)]
  simp only [Result.andThen, Sem.run_pure]
  congr 1
  match vs with
  | [] => rfl
  | [v] => rfl
  | a :: b :: r => simp [retV]

/-- the end of a function -/
theorem ret_ {fn : Func} {R : Ending → World → Prop} {rs : List ResultVar} {vs : List Value} (hr : fn.results = rs.toArray) (hv : ResAll P w0 O m s rs vs) (h : ∀ w, St w0 O m w → R (.returned (retV vs)) w) : At N [] w0 O .ret s m (bodyPost P fn R) := fun a w hs hd hm =>
  ⟨hd, _, run_results hr hv hs hm, h w hm⟩
theorem ret_n {fn : Func} {R : Ending → World → Prop} {rs : List ResultVar} {vs : List Value} (hr : fn.results = rs.toArray) (hv : ResAll P w0 O m s rs vs) (h : ∀ w, St w0 O m w → R (.returned (retV vs)) w) : At N [] w0 O .normal s m (bodyPost P fn R) := fun a w hs hd hm =>
  ⟨hd, _, run_results hr hv hs hm, h w hm⟩
theorem retM_ {fn : Func} {R : Ending → World → Prop} {rs : List ResultVar} {vs : List Value} (hr : fn.results = rs.toArray) (hv : ResAll P w0 O m s rs vs) (h : ∀ w, St w0 O m w → R (.returned (retV vs)) w) : At N [] w0 O .ret s m (bodyPostM (FW none) 0 P fn R) := fun a w hs hd hm => by
  show LeavesInM (FW none) 0 P fn a.tmps R a.defers .returning w
  rw [hd]
  exact ⟨_, run_results hr hv hs hm, h w hm⟩
end
end Go.Proofs.Ytjdbdjmfimbbkaa
