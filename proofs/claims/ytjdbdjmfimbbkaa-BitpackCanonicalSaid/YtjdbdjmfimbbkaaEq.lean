/- '==' of structs of plain fields. -/
import Derived.Test.YtjdbdjmfimbbkaaDraw
import Derived.Laws.StructEq
set_option linter.unusedVariables false
set_option linter.unusedSimpArgs false
namespace Go.Proofs.Ytjdbdjmfimbbkaa
open Go.RowKit

inductive Tag where
  | int (k : IntKind) | bool | str
  deriving DecidableEq

def tagOf : TypeDesc → Option Tag
  | .int k => some (.int k)
  | .bool => some .bool
  | .string => some .str
  | _ => none

def tagV : Value → Option Tag
  | .int k _ => some (.int k)
  | .bool _ => some .bool
  | .string _ => some .str
  | _ => none

def sameV : Value → Value → Bool
  | .int _ a, .int _ b => a == b
  | .bool a, .bool b => a == b
  | .string a, .string b => a.toList == b.toList
  | _, _ => false

def sames : List Value → List Value → Bool
  | [], [] => true
  | x :: r, y :: r' => sameV x y && sames r r'
  | _, _ => false

def tagsOf (P : Program) : Nat → List Field → Option (List Tag)
  | _, [] => some []
  | i, f :: r => match P.underlying f.type, tagsOf P (i + 1) r with
    | some u, some ts => match tagOf u with
      | some t => if f.name != "_" && f.offset == i then some (t :: ts) else none
      | none => none
    | _, _ => none

def eqsB (P : Program) (t : TypeId) (ts : List Tag) : Bool := match P.underlying t with
  | some (.struct fs) => !P.stoodInHeld t && !P.eqGuardType P.depth t && tagsOf P 0 fs.toList == some ts
  | _ => false

class EqS (P : Program) (t : TypeId) (ts : outParam (List Tag)) : Prop where
  ok : eqsB P t ts = true

theorem part_one {P : Program} {w : World} {t : TypeId} {u : TypeDesc} {tg : Tag} (hu : P.underlying t = some u) (ht : tagOf u = some tg) {cs : Array Value} {i : Nat} {v : Value} (hc : cs[i]? = some v) : (part t cs i).run P w = .ok v w := by
  cases u <;> first
    | (simp [tagOf] at ht; done)
    | (simp [part, isAgg, Ytjdbdjmfimbbkaa.run_underlying hu, hc])

theorem run_eqFields {P : Program} {w : World} {d : Nat} : ∀ (fs : List Field) (ts : List Tag) (i : Nat) (xs ys : List Value), tagsOf P i fs = some ts → (xs.drop i).map tagV = ts.map some → (ys.drop i).map tagV = ts.map some →
    (Op.eqFields (d + 1) xs.toArray ys.toArray fs).run P w = .ok (sames (xs.drop i) (ys.drop i)) w
  | [], ts, i, xs, ys, h, hx, hy => by
    simp only [tagsOf, Option.some.injEq] at h
    subst h
    rw [List.map_nil, List.map_eq_nil_iff] at hx hy
    simp [Op.eqFields, hx, hy, sames]
  | f :: r, ts, i, xs, ys, h, hx, hy => by
    simp only [tagsOf] at h
    split at h
    · rename_i u ts' h1 h2
      split at h
      · rename_i t h3
        split at h
        · rename_i h4
          simp only [Option.some.injEq] at h
          subst h
          simp only [Bool.and_eq_true, bne_iff_ne, ne_eq, beq_iff_eq] at h4
          obtain ⟨hn, ho⟩ := h4
          obtain ⟨x, xr, ex⟩ : ∃ x xr, xs.drop i = x :: xr := by cases e : xs.drop i with
            | nil => rw [e] at hx; simp at hx
            | cons x xr => exact ⟨x, xr, rfl⟩
          obtain ⟨y, yr, ey⟩ : ∃ y yr, ys.drop i = y :: yr := by cases e : ys.drop i with
            | nil => rw [e] at hy; simp at hy
            | cons y yr => exact ⟨y, yr, rfl⟩
          have gx : xs.toArray[i]? = some x := by
            have := congrArg (·[0]?) ex
            simpa [List.getElem?_drop] using this
          have gy : ys.toArray[i]? = some y := by
            have := congrArg (·[0]?) ey
            simpa [List.getElem?_drop] using this
          have dx : xs.drop (i + 1) = xr := by rw [← List.drop_drop, ex]; rfl
          have dy : ys.drop (i + 1) = yr := by rw [← List.drop_drop, ey]; rfl
          rw [ex] at hx
          rw [ey] at hy
          simp only [List.map_cons, List.cons.injEq] at hx hy
          have ih := run_eqFields (P := P) (w := w) (d := d) r ts' (i + 1) xs ys h2 (by rw [dx]; exact hx.2) (by rw [dy]; exact hy.2)
          rw [dx, dy] at ih
          have he : (Op.equalIn (d + 1) f.type x y).run P w = .ok (sameV x y) w := by
            have hx1 := hx.1
            have hy1 := hy.1
            cases t <;> cases u <;> simp [tagOf] at h3 <;> cases x <;> simp [tagV] at hx1 <;> cases y <;> simp [tagV] at hy1
            · subst h3 hx1 hy1; exact run_equalIn_int w d _ _ _ _ _ h1
            · exact run_equalIn_bool' w d _ _ _ h1
            · exact run_equalIn_string w d _ _ _ h1
          rw [Op.eqFields, if_pos hn, ho]
          simp only [Sem.run_bind, part_one h1 h3 gx, part_one h1 h3 gy, Result.andThen, he, ex, ey, sames]
          cases hs : sameV x y
          · simp
          · simpa using ih
        · cases h
      · cases h
    · cases h

theorem sameV_self (v : Value) (h : (tagV v).isSome = true) : sameV v v = true := by cases v <;> simp_all [tagV, sameV]
theorem sames_self : ∀ (l : List Value) (ts : List Tag), l.map tagV = ts.map some → sames l l = true
  | [], _, _ => rfl
  | v :: r, [], h => by simp at h
  | v :: r, t :: ts, h => by
    simp only [List.map_cons, List.cons.injEq] at h
    simp [sames, sameV_self v (by rw [h.1]; rfl), sames_self r ts h.2]

section
variable {ro : Option Nat} {P : Program} {N : Nat} {D : List Deferred} {w0 : World} {O : List Nat} {ops : Array Oper} {l : List Oper} {s : List (Nat × Value)} {m : List As} {Q : Exit → Act → World → Prop}
variable {d : Nat} {ty : TypeId} {pos : String} {af : Array Edge}

theorem run_eqS {w : World} {t : TypeId} {ts : List Tag} [h : EqS P t ts] {xs ys : List Value} (hx : xs.map tagV = ts.map some) (hy : ys.map tagV = ts.map some) :
    (Op.equalIn 10000 t (.agg xs.toArray) (.agg ys.toArray)).run P w = .ok (sames xs ys) w ∧ P.eqGuardType P.depth t = false := by
  have h := h.ok
  unfold eqsB at h
  split at h
  · rename_i fs hu
    simp only [Bool.and_eq_true, Bool.not_eq_true', beq_iff_eq] at h
    have hf : P.fieldsOf t = fs := by simp [Program.fieldsOf, hu]
    rw [run_equalIn_struct w 9999 t _ _ (by rw [hf]; exact hu) h.1.1, hf]
    exact ⟨run_eqFields (d := 9998) fs.toList ts 0 xs ys h.2 (by simpa using hx) (by simpa using hy), h.1.2⟩
  · cases h

theorem G_eqlS {t t' : TypeId} {ts : List Tag} {x y : Operand} {xs ys : List Value} {b : Bool} [he : EqS P t ts] (hx : ev s x = some (.agg xs.toArray)) (hy : ev s y = some (.agg ys.toArray)) (fx : xs.map tagV = ts.map some) (fy : ys.map tagV = ts.map some) (hb : sames xs ys = b) (hN : Nat.blt d N = true)
    (k : G ro P N D w0 O ops l ((d, .bool b) :: s) m Q) : G ro P N D w0 O ops (⟨some d, .binOp .eql t x y t', ty, pos, af, none⟩ :: l) s m Q :=
  G_bin_any (.bool b) hx hy hN (fun w => run_eqGuard_agg w _ _ _ _ _ _ (run_eqS (w := w) fx fy).2) (fun w => by rw [run_eql_struct, (run_eqS (w := w) fx fy).1, hb]; rfl) k
theorem G_neqS {t t' : TypeId} {ts : List Tag} {x y : Operand} {xs ys : List Value} {b : Bool} [he : EqS P t ts] (hx : ev s x = some (.agg xs.toArray)) (hy : ev s y = some (.agg ys.toArray)) (fx : xs.map tagV = ts.map some) (fy : ys.map tagV = ts.map some) (hb : sames xs ys = b) (hN : Nat.blt d N = true)
    (k : G ro P N D w0 O ops l ((d, .bool (!b)) :: s) m Q) : G ro P N D w0 O ops (⟨some d, .binOp .neq t x y t', ty, pos, af, none⟩ :: l) s m Q :=
  G_bin_any (.bool (!b)) hx hy hN (fun w => run_eqGuard_agg w _ _ _ _ _ _ (run_eqS (w := w) fx fy).2) (fun w => by rw [run_neq_struct, (run_eqS (w := w) fx fy).1, hb]; rfl) k

/-- '==' and '!=' of bools -/
theorem G_eqlB {t t' : TypeId} {x y : Operand} {a b : Bool} [ht : Und P t .bool] (hx : ev s x = some (.bool a)) (hy : ev s y = some (.bool b)) (hN : Nat.blt d N = true)
    (k : G ro P N D w0 O ops l ((d, .bool (a == b)) :: s) m Q) : G ro P N D w0 O ops (⟨some d, .binOp .eql t x y t', ty, pos, af, none⟩ :: l) s m Q :=
  G_bin_any _ hx hy hN (fun w => by simp [eqGuard]) (fun w => by simp [binOp, Op.equal, Op.maxDepth, run_equalIn_bool' w 9999 t a b ht.eq]) k
theorem G_neqB {t t' : TypeId} {x y : Operand} {a b : Bool} [ht : Und P t .bool] (hx : ev s x = some (.bool a)) (hy : ev s y = some (.bool b)) (hN : Nat.blt d N = true)
    (k : G ro P N D w0 O ops l ((d, .bool (!(a == b))) :: s) m Q) : G ro P N D w0 O ops (⟨some d, .binOp .neq t x y t', ty, pos, af, none⟩ :: l) s m Q :=
  G_bin_any _ hx hy hN (fun w => by simp [eqGuard]) (fun w => by simp [binOp, Op.equal, Op.maxDepth, run_equalIn_bool' w 9999 t a b ht.eq]) k
end

/-! ### Where a field lies -/
def fieldOffB (P : Program) (t : TypeId) (i off : Nat) : Bool := match P.underlying t with
  | some (.struct fs) => match fs[i]? with
    | some f => match P.info? f.type with
      | some j => j.size != 0 && f.offset == off
      | none => false
    | none => false
  | _ => false

class FieldOff (P : Program) (t : TypeId) (i : Nat) (off : outParam Nat) : Prop where
  ok : fieldOffB P t i off = true

theorem run_fieldAt {P : Program} {w : World} {t : TypeId} {i off : Nat} [h : FieldOff P t i off] (ad : Addr) : (Instr.fieldAt t (.pointer (some ad)) i).run P w = .ok (.pointer (some (ad.add off))) w := by
  have h := h.ok
  unfold fieldOffB at h
  split at h
  · rename_i fs hu
    split at h
    · rename_i f hf
      split at h
      · rename_i j hj
        simp only [Bool.and_eq_true, bne_iff_ne, ne_eq, beq_iff_eq] at h
        obtain ⟨h1, rfl⟩ := h
        simp [Instr.fieldAt, Ytjdbdjmfimbbkaa.run_underlying hu, hf, Instr.sureAddr, fieldPlace, sizeOf, typeInfo, hj, h1]
      · cases h
    · cases h
  · cases h

section
variable {ro : Option Nat} {P : Program} {N : Nat} {D : List Deferred} {w0 : World} {O : List Nat} {ops : Array Oper} {l : List Oper} {s : List (Nat × Value)} {m : List As} {Q : Exit → Act → World → Prop}
variable {d : Nat} {ty : TypeId} {pos : String} {af : Array Edge}
/-- the address of a field of a variable that is held -/
theorem G_fieldOff {t : TypeId} {x : Operand} {i off b o : Nat} [h : FieldOff P t i off] (hx : ev s x = some (.pointer (some ⟨b, o, none⟩))) (hN : Nat.blt d N = true)
    (k : G ro P N D w0 O ops l ((d, .pointer (some ⟨b, o + off, none⟩)) :: s) m Q) : G ro P N D w0 O ops (⟨some d, .fieldAddr t x i, ty, pos, af, none⟩ :: l) s m Q :=
  G_fieldAddr hx (fun w => by rw [run_fieldAt, addr_add]) hN k
/-- .. of any variable -/
theorem G_fieldAny {t : TypeId} {x : Operand} {i off : Nat} {ad : Addr} [h : FieldOff P t i off] (hx : ev s x = some (.pointer (some ad))) (hN : Nat.blt d N = true)
    (k : G ro P N D w0 O ops l ((d, .pointer (some (ad.add off))) :: s) m Q) : G ro P N D w0 O ops (⟨some d, .fieldAddr t x i, ty, pos, af, none⟩ :: l) s m Q :=
  G_fieldAddr hx (fun w => run_fieldAt ad) hN k
end
end Go.Proofs.Ytjdbdjmfimbbkaa
