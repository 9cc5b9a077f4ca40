/- The rules of structs and arrays. -/
import Derived.Test.YtjdbdjmfimbbkaaMem
set_option linter.unusedVariables false
set_option linter.unusedSimpArgs false
namespace Go.Proofs.Ytjdbdjmfimbbkaa
open Go.RowKit

/-- A type whose values are rows of one-cell values (a struct, an array): its zero value's cells. -/
class Ag (P : Program) (t : TypeId) (zs : outParam (List Value)) : Prop where
  info : ∃ i, P.info? t = some i ∧ i.zero = some (.agg zs.toArray) ∧ i.size = zs.length
  und : ∃ u, P.underlying t = some u ∧ notAgg u = false

theorem Ag.of {P : Program} {t : TypeId} {zs : List Value} {u : TypeDesc} (h : (P.info? t).map (fun i => (i.zero, i.size)) = some (some (.agg zs.toArray), zs.length)) (hu : P.underlying t = some u) (hn : notAgg u = false) : Ag P t zs := by
  refine ⟨?_, ⟨u, hu, hn⟩⟩
  cases hi : P.info? t with
  | none => rw [hi] at h; cases h
  | some i =>
    rw [hi] at h
    simp only [Option.map_some, Option.some.injEq, Prod.mk.injEq] at h
    exact ⟨i, rfl, h.1, h.2⟩

section
variable {P : Program} {w : World}
theorem run_zeroA {t : TypeId} {zs : List Value} (h : Ag P t zs) : (zeroValue t).run P w = .ok (.agg zs.toArray) w := by
  obtain ⟨i, h1, h2, h3⟩ := h.info
  simp [zeroValue, typeInfo, h1, h2]
theorem run_sizeOfA {t : TypeId} {zs : List Value} (h : Ag P t zs) : (sizeOf t).run P w = .ok zs.length w := by
  obtain ⟨i, h1, h2, h3⟩ := h.info
  simp [sizeOf, typeInfo, h1, h3]
theorem run_isAggA {t : TypeId} {zs : List Value} (h : Ag P t zs) : (isAgg t).run P w = .ok true w := by
  obtain ⟨u, h1, h2⟩ := h.und
  simp only [isAgg, Sem.run_bind, run_underlying h1, Result.andThen]
  cases u <;> first | rfl | (simp [notAgg] at h2)

/-- a whole row is read -/
theorem run_loadA {t : TypeId} {zs : List Value} {a : Addr} {vs : List Value} (h : Ag P t zs) (hl : vs.length = zs.length) (hc : ∀ j v, vs[j]? = some v → w.cell? (a.add j) = some v) : (Instr.loadAt t (.pointer (some a))).run P w = .ok (.agg vs.toArray) w := by
  have := run_loadCells_list (P := P) w a vs hc
  rw [hl] at this
  simp [Instr.loadAt, Instr.sureAddr, loadVar, run_isAggA h, run_sizeOfA h, this]

theorem addr_add (b off j : Nat) : (⟨b, off, none⟩ : Addr).add j = ⟨b, off + j, none⟩ := by
  unfold Addr.add
  split <;> simp_all

/-- a row is written over a row of cells that are there -/
theorem run_storeCells {b : Nat} {e : TypeId} : ∀ (vs : List Value) (i : Nat) (off : Nat) (cs : Array Value) (w : World), w.heap[b]? = some (.cells cs e) → off + i + vs.length ≤ cs.size → (∀ v ∈ vs, v.oneCell' = true) →
    ∃ w', (storeCells ⟨b, off, none⟩ vs i).run P w = .ok () w' ∧ w.grownBy w' (some b) ∧ w'.heap[b]? = some (.cells (cs.extract 0 (off + i) ++ vs.toArray ++ cs.extract (off + i + vs.length) cs.size) e)
  | [], i, off, cs, w, hb, hl, h1 => by
    refine ⟨w, rfl, ⟨rfl, rfl, rfl, Nat.le_refl _, fun _ _ _ => rfl⟩, ?_⟩
    rw [hb]
    congr 2
    apply Array.ext'
    simp only [List.length_nil, Nat.add_zero] at hl
    simp only [Array.toList_append, Array.toList_extract, List.extract_eq_take_drop, List.drop_zero, Nat.sub_zero, List.length_nil, Nat.add_zero, List.append_nil]
    rw [List.take_of_length_le (l := cs.toList.drop (off + i)) (by simp)]
    exact (List.take_append_drop _ _).symm
  | v :: r, i, off, cs, w, hb, hl, h1 => by
    simp only [List.length_cons] at hl
    have hv := h1 v (by simp)
    have hlt : off + i < cs.size := by omega
    have hc : w.cell? ⟨b, off + i, none⟩ = some cs[off + i] := by simp [World.cell?, hb, hlt]
    have hf : w.frozen? ⟨b, off + i, none⟩ = false := by simp [World.frozen?, hb]
    have hb' : (w.setCell ⟨b, off + i, none⟩ v).heap[b]? = some (.cells (cs.setIfInBounds (off + i) v) e) := by simp [World.setCell, Array.getElem?_modify, hb]
    obtain ⟨w', hr, hg, hh⟩ := run_storeCells r (i + 1) off _ _ hb' (by simp; omega) (fun u hu => h1 u (by simp [hu]))
    refine ⟨w', ?_, ?_, ?_⟩
    · simp only [storeCells, addr_add, Sem.run_bind, run_store P w _ v .plain hv, hc, hf, Bool.false_eq_true, if_false, Result.andThen, hr]
    · have hg0 := G_store.grownBy_setCell' w b v (off + i)
      exact ⟨hg.os.trans hg0.os, hg.tape.trans hg0.tape, hg.output.trans hg0.output, Nat.le_trans hg0.size hg.size, fun k hk hne => (hg.block k (by simpa using hk) hne).trans (hg0.block k hk hne)⟩
    · rw [hh]
      congr 2
      apply Array.ext'
      have hl2 : off + i < cs.toList.length := by simpa using hlt
      simp only [Array.toList_append, Array.toList_extract, List.extract_eq_take_drop, List.drop_zero, Nat.sub_zero, Array.toList_setIfInBounds, Array.size_setIfInBounds, List.length_cons]
      rw [show off + (i + 1) = off + i + 1 by omega, List.take_succ_eq_append_getElem (by simpa using hl2), List.take_set, List.getElem_set_self, show off + i + 1 + r.length = off + i + (r.length + 1) by omega]
      rw [List.set_eq_of_length_le (by simp; omega), List.drop_set]
      rw [if_pos (by omega)]
      simp

end

/-- the parts of a struct, laid over its zero value's cells: (offset, cells) of each field -/
def fillS (places : List (Nat × Nat)) : List Value → List (Nat × Value) → Option (List Value)
  | cs, [] => some cs
  | cs, (i, v) :: r => match places[i]? with
    | none => none
    | some (off, n) =>
      let us := match v with | .agg us => us.toList | u => [u]
      bif Nat.beq us.length n then fillS places (cs.take off ++ us ++ cs.drop (off + n)) r else none

section
variable {ro : Option Nat} {P : Program} {N : Nat} {D : List Deferred} {w0 : World} {O : List Nat} {ops : Array Oper} {l : List Oper} {s : List (Nat × Value)} {m : List As} {Q : Exit → Act → World → Prop}
variable {d : Nat} {ty : TypeId} {pos : String} {af : Array Edge}

theorem G_allocA {t : TypeId} {zs : List Value} [hS : Ag P t zs] (hN : Nat.blt d N = true) (k : ∀ b, G ro P N D w0 O ops l ((d, .pointer (some ⟨b, 0, none⟩)) :: s) (.box b (.cells zs.toArray t) :: m) Q) :
    G ro P N D w0 O ops (⟨some d, .alloc t, ty, pos, af, none⟩ :: l) s m Q :=
  G_any (ι := Nat) (fun b => .pointer (some ⟨b, 0, none⟩)) (fun b => .box b (.cells zs.toArray t) :: m) (fun _ => True) rfl rfl (by simp) hN
    (fun a w hs hm => ⟨w.heap.size, w.alloc (.cells zs.toArray t), trivial, by simp [execOp, Instr.alloc, run_zeroA hS, newVar, newRow, Value.cells], hm.alloc _⟩) (fun b _ => k b)

/-- a struct's value out of its parts; what the model computes is asked as one fact -/
theorem G_build {t : TypeId} {parts : Array (Nat × Operand)} {vals : List Value} {v : Value} (hv : evs s (parts.toList.map (·.2)) = some vals) (hr : ∀ w, (Instr.build t ((parts.toList.map (·.1)).zip vals).toArray).run P w = .ok v w) (hN : Nat.blt d N = true)
    (k : G ro P N D w0 O ops l ((d, v) :: s) m Q) : G ro P N D w0 O ops (⟨some d, .build t parts, ty, pos, af, none⟩ :: l) s m Q :=
  G_val v rfl rfl (by simp) hN (fun a w hs hm => by
    have hp : (parts.map fun (i, x) => (i, a.eval x)) = ((parts.toList.map (·.1)).zip vals).toArray := by
      apply Array.ext'
      rw [← evs_map hs hv]
      simp only [Array.toList_map]
      generalize parts.toList = ps
      induction ps with
      | nil => rfl
      | cons x r ih => simpa using ih
    simp only [execOp, hp, Sem.run_bind, hr w, Result.andThen, Sem.run_pure]) k

/-- a whole block is written -/
theorem G_storeA {t e : TypeId} {zs vs : List Value} {x y : Operand} {b : Nat} {cs : Array Value} {m' : List As} [hS : Ag P t zs] (hx : ev s x = some (.pointer (some ⟨b, 0, none⟩))) (hy : ev s y = some (.agg vs.toArray)) (hl : Nat.beq vs.length zs.length = true) (h1 : vs.all (·.oneCell') = true)
    [hh : Held b m (.cells cs e)] [hm : PutC b (.cells vs.toArray e) m m'] (hc : cs.size = zs.length) (k : G ro P N D w0 O ops l s m' Q) : G ro P N D w0 O ops (⟨none, .store t x y, ty, pos, af, none⟩ :: l) s m Q :=
  G_unit rfl rfl (by simp) (fun a w hs hw => by
    obtain ⟨o, m1, m2, rfl, rfl⟩ := hm.form
    have hl' : vs.length = zs.length := Nat.eq_of_beq_eq_true hl
    have hb : w.heap[b]? = some (.cells cs e) := hw.ok (.box b (.cells cs e)) hh.mem
    obtain ⟨w', hr, hg, hh⟩ := run_storeCells (P := P) vs 0 0 cs w hb (by omega) (by simpa using h1)
    refine ⟨w', ?_, hw.set hg ?_⟩
    · simp [execOp, hs.ev hx, hs.ev hy, Instr.storeAt, Instr.sureAddr, storeVar, run_sizeOfA hS, Value.cells, hl', hr]
    · rw [hh]
      congr 2
      apply Array.ext'
      simp [hl', hc, List.extract_eq_take_drop]) k

/-- a whole row of cells is read out of a block that is held -/
theorem G_loadA {t e : TypeId} {zs vs : List Value} {x : Operand} {b off : Nat} {cs : Array Value} {mk : Nat × Nat} [hS : Ag P t zs] (hx : ev s x = some (.pointer (some ⟨b, off, none⟩))) [hm : Held b m (.cells cs e mk)]
    (hc : (cs.toList.drop off).take zs.length = vs) (hl : Nat.beq vs.length zs.length = true) (hN : Nat.blt d N = true)
    (k : G ro P N D w0 O ops l ((d, .agg vs.toArray) :: s) m Q) : G ro P N D w0 O ops (⟨some d, .load t x, ty, pos, af, none⟩ :: l) s m Q :=
  G_val _ rfl rfl (by simp) hN (fun a w hs hw => by
    have h1 : w.heap[b]? = some (.cells cs e mk) := hw.ok _ hm.mem
    have hl' : vs.length = zs.length := Nat.eq_of_beq_eq_true hl
    have := run_loadA (P := P) (w := w) (a := ⟨b, off, none⟩) hS hl' (fun j v hj => by
      subst hc
      rw [List.getElem?_take] at hj
      split at hj
      · rw [List.getElem?_drop] at hj
        rw [addr_add]
        simp only [World.cell?, h1]
        simpa using hj
      · cases hj)
    simp [execOp, hs.ev hx, this]) k

theorem G_extract {x : Operand} {i : Nat} {vs : Array Value} {v : Value} (hx : ev s x = some (.tuple vs)) (hi : vs[i]? = some v) (hN : Nat.blt d N = true) (k : G ro P N D w0 O ops l ((d, v) :: s) m Q) :
    G ro P N D w0 O ops (⟨some d, .extract x i, ty, pos, af, none⟩ :: l) s m Q :=
  G_val _ rfl rfl (by simp) hN (fun a w hs hm => by simp [execOp, hs.ev hx, Instr.extract, hi]) k

/-- a field of a struct's value; the fact on the field is asked -/
theorem G_field {t : TypeId} {x : Operand} {i : Nat} {u v : Value} (hx : ev s x = some u) (hr : ∀ w, (Instr.field t u i).run P w = .ok v w) (hN : Nat.blt d N = true) (k : G ro P N D w0 O ops l ((d, v) :: s) m Q) :
    G ro P N D w0 O ops (⟨some d, .field t x i, ty, pos, af, none⟩ :: l) s m Q :=
  G_val _ rfl rfl (by simp) hN (fun a w hs hm => by simp [execOp, hs.ev hx, hr w]) k

/-- the address of a field -/
theorem G_fieldAddr {t : TypeId} {x : Operand} {i : Nat} {u v : Value} (hx : ev s x = some u) (hr : ∀ w, (Instr.fieldAt t u i).run P w = .ok v w) (hN : Nat.blt d N = true) (k : G ro P N D w0 O ops l ((d, v) :: s) m Q) :
    G ro P N D w0 O ops (⟨some d, .fieldAddr t x i, ty, pos, af, none⟩ :: l) s m Q :=
  G_val _ rfl rfl (by simp) hN (fun a w hs hm => by simp [execOp, hs.ev hx, hr w]) k

/-- any operation of two operands; the fact is asked -/
theorem G_bin_any {op : BinOp} {t t' : TypeId} {x y : Operand} {u u' : Value} (v : Value) (hx : ev s x = some u) (hy : ev s y = some u') (hN : Nat.blt d N = true)
    (hg : ∀ w, (eqGuard op t x y u u').run P w = .ok () w) (hv : ∀ w, (binOp op t u u').run P w = .ok v w) (k : G ro P N D w0 O ops l ((d, v) :: s) m Q) :
    G ro P N D w0 O ops (⟨some d, .binOp op t x y t', ty, pos, af, none⟩ :: l) s m Q :=
  G_val v rfl rfl (by simp) hN (fun a' w hs hm => by
    simp only [execOp, hs.ev hx, hs.ev hy, Sem.run_bind, hg w, Result.andThen, hv w, Sem.run_pure]) k

/-- the address of an element of an array variable -/
theorem G_indexA {t e : TypeId} {n : Nat} {z : Value} {x y : Operand} {b off j : Nat} [ht : Und P t (.array n e)] [hS : Sc P e z] (hx : ev s x = some (.pointer (some ⟨b, off, none⟩))) (hy : ev s y = some (I j)) (hj : j < n) (hN : Nat.blt d N = true)
    (k : G ro P N D w0 O ops l ((d, .pointer (some ⟨b, off + j, none⟩)) :: s) m Q) : G ro P N D w0 O ops (⟨some d, .indexAddr t x y, ty, pos, af, none⟩ :: l) s m Q :=
  G_val _ rfl rfl (by simp) hN (fun a w hs hm => by
    have hjn : (j : Int) < (n : Int) := by omega
    have hj0 : (0 : Int) ≤ (j : Int) := by omega
    simp only [execOp, Instr.indexAt, hs.ev hx, hs.ev hy, asIntOf, run_underlying ht.eq, run_sizeOf hS, Sem.run_bind, Sem.run_pure, Result.andThen, Instr.sureAddr, hjn, hj0, and_self, if_true, Nat.mul_one, Int.toNat_natCast, addr_add]) k

/-- the result lies in memory -/
theorem ret_cell {fn : Func} {R : Ending → World → Prop} {t : Nat} {ty e : TypeId} {zs vs : List Value} {b : Nat} {mk : Nat × Nat} (hr : fn.results = #[.cell t ty]) [hS : Ag P ty zs] (hv : look s t = some (.pointer (some ⟨b, 0, none⟩))) [hm : Held b m (.cells vs.toArray e mk)] (hl : Nat.beq vs.length zs.length = true)
    (h : ∀ w, St w0 O m w → R (.returned (.agg vs.toArray)) w) : At N [] w0 O .ret s m (bodyPost P fn R) := fun a w hs hd hw => by
  have h1 : w.heap[b]? = some (.cells vs.toArray e mk) := hw.ok _ hm.mem
  have hl' : vs.length = zs.length := Nat.eq_of_beq_eq_true hl
  have h2 := run_loadA (P := P) (w := w) (a := ⟨b, 0, none⟩) hS hl' (fun j v hj => by
    rw [addr_add]
    simp only [World.cell?, h1]
    simpa using hj)
  refine ⟨hd, .agg vs.toArray, ?_, h w hw⟩
  simp only [Instr.loadAt, Instr.sureAddr, Sem.run_bind, Sem.run_pure, Result.andThen] at h2
  have h3 := hs.at_ t _ hv
  rw [Array.getD_eq_getD_getElem?] at h3
  simp [results, hr, h3, asAddr, h2]

end
end Go.Proofs.Ytjdbdjmfimbbkaa
