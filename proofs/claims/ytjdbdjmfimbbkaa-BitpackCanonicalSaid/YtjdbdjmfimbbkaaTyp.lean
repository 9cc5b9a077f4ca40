/- Slices as lists of Lean values: what is read, what is owned. -/
import Derived.Test.YtjdbdjmfimbbkaaAuto
set_option linter.unusedVariables false
set_option linter.unusedSimpArgs false
namespace Go.Proofs.Ytjdbdjmfimbbkaa
open Go.RowKit


/-- A Lean type whose values are rows of one-cell values. -/
class Elt (α : Type) where
  sz : Nat
  enc : α → List Value
  val : α → Value
  cells : ∀ a, (val a).cells = (enc a).toArray
  len : ∀ a, (enc a).length = sz
  one : ∀ a c, c ∈ enc a → c.oneCell' = true
  pos : 0 < sz

section
variable {α : Type} [Elt α]
def encs (l : List α) : List Value := l.flatMap Elt.enc
@[simp] theorem encs_nil : encs ([] : List α) = [] := rfl
theorem encs_cons (a : α) (l : List α) : encs (a :: l) = Elt.enc a ++ encs l := by simp [encs]
@[simp] theorem encs_append (l l' : List α) : encs (l ++ l') = encs l ++ encs l' := by simp [encs]
theorem encs_length : ∀ (l : List α), (encs l).length = l.length * Elt.sz α
  | [] => by simp
  | a :: l => by rw [encs_cons, List.length_append, Elt.len, encs_length l, List.length_cons, Nat.add_mul, Nat.one_mul, Nat.add_comm]
theorem encs_one : ∀ (l : List α) (c : Value), c ∈ encs l → c.oneCell' = true := fun l c h => by
  obtain ⟨a, _, h2⟩ := List.mem_flatMap.1 h
  exact Elt.one a c h2
theorem encs_drop : ∀ (k : Nat) (l : List α), (encs l).drop (k * Elt.sz α) = encs (l.drop k)
  | 0, l => by simp
  | k + 1, [] => by simp
  | k + 1, a :: l => by
    rw [encs_cons, List.drop_succ_cons, ← encs_drop k l, Nat.add_mul, Nat.one_mul, Nat.add_comm, ← List.drop_drop]
    congr 1
    exact List.drop_left' (Elt.len a)
theorem encs_take : ∀ (k : Nat) (l : List α), (encs l).take (k * Elt.sz α) = encs (l.take k)
  | 0, l => by simp
  | k + 1, [] => by simp
  | k + 1, a :: l => by
    rw [encs_cons, List.take_succ_cons, encs_cons, ← encs_take k l, Nat.add_mul, Nat.one_mul, Nat.add_comm (k * Elt.sz α)]
    rw [List.take_append, Elt.len, List.take_of_length_le (by rw [Elt.len]; omega)]
    congr 2
    omega
theorem encs_get {l : List α} {j o : Nat} (hj : j < l.length) (ho : o < Elt.sz α) : (encs l)[j * Elt.sz α + o]? = (Elt.enc l[j])[o]? := by
  rw [← List.getElem?_drop, encs_drop, List.drop_eq_getElem_cons hj, encs_cons, List.getElem?_append_left (by rw [Elt.len]; exact ho)]
theorem enc_take (b : α) (l : List Value) (k : Nat) : (Elt.enc b ++ l).take (Elt.sz α + k) = Elt.enc b ++ l.take k := by
  rw [List.take_append, Elt.len, List.take_of_length_le (by rw [Elt.len]; omega), Nat.add_sub_cancel_left]
theorem enc_drop (b : α) (l : List Value) (k : Nat) : (Elt.enc b ++ l).drop (Elt.sz α + k) = l.drop k := by
  rw [List.drop_append, Elt.len, List.drop_of_length_le (by rw [Elt.len]; omega), Nat.add_sub_cancel_left, List.nil_append]
theorem encs_set : ∀ (l : List α) (j : Nat) (a : α), j < l.length → encs (l.set j a) = (encs l).take (j * Elt.sz α) ++ Elt.enc a ++ (encs l).drop (j * Elt.sz α + Elt.sz α)
  | [], j, a, h => by simp at h
  | b :: l, 0, a, h => by
    rw [List.set_cons_zero, encs_cons, encs_cons]
    simp only [Nat.zero_mul, List.take_zero, List.nil_append, Nat.zero_add]
    rw [List.drop_left' (Elt.len b)]
  | b :: l, j + 1, a, h => by
    have h' : j < l.length := by simpa using h
    rw [List.set_cons_succ, encs_cons, encs_cons, encs_set l j a h', Nat.add_mul, Nat.one_mul, Nat.add_comm (j * Elt.sz α), enc_take, Nat.add_assoc, enc_drop, Nat.add_comm (j * Elt.sz α)]
    simp [List.append_assoc]
end

/-- every value is one cell -/
class Scal (α : Type) [Elt α] : Prop where
  enc : ∀ a : α, Elt.enc a = [Elt.val a]
  sz : Elt.sz α = 1
/-- every value is a row of cells -/
class Aggr (α : Type) [Elt α] : Prop where
  val : ∀ a : α, Elt.val a = .agg (Elt.enc a).toArray

instance eltI : Elt Int where
  sz := 1
  enc n := [I n]
  val n := I n
  cells _ := rfl
  len _ := rfl
  one _ c h := by simp at h; subst h; rfl
  pos := by decide
instance : Scal Int := ⟨fun _ => rfl, rfl⟩
instance eltU : Elt (BitVec 64) where
  sz := 1
  enc n := [U n]
  val n := U n
  cells _ := rfl
  len _ := rfl
  one _ c h := by simp at h; subst h; rfl
  pos := by decide
instance : Scal (BitVec 64) := ⟨fun _ => rfl, rfl⟩
instance eltB : Elt (BitVec 8) where
  sz := 1
  enc n := [B8 n]
  val n := B8 n
  cells _ := rfl
  len _ := rfl
  one _ c h := by simp at h; subst h; rfl
  pos := by decide
instance : Scal (BitVec 8) := ⟨fun _ => rfl, rfl⟩
instance eltBool : Elt Bool where
  sz := 1
  enc n := [.bool n]
  val n := .bool n
  cells _ := rfl
  len _ := rfl
  one _ c h := by simp at h; subst h; rfl
  pos := by decide
instance : Scal Bool := ⟨fun _ => rfl, rfl⟩

/-- a's value, laid open -/
class ValR {α : Type} [Elt α] (a : α) (v : outParam Value) : Prop where
  eq : Elt.val a = v
instance valR_int (a : Int) : ValR a (I a) := ⟨rfl⟩
instance valR_u64 (a : BitVec 64) : ValR a (U a) := ⟨rfl⟩
instance valR_byte (a : BitVec 8) : ValR a (B8 a) := ⟨rfl⟩
instance valR_bool (a : Bool) : ValR a (.bool a) := ⟨rfl⟩

theorem encs_int (l : List Int) : encs l = l.map I := by induction l <;> simp_all [encs, Elt.enc]
theorem encs_byte (l : List (BitVec 8)) : encs l = l.map B8 := by induction l <;> simp_all [encs, Elt.enc]
theorem encs_u64 (l : List (BitVec 64)) : encs l = l.map U := by induction l <;> simp_all [encs, Elt.enc]

/-- The type t is laid as α. -/
class Lay (P : Program) (t : TypeId) (α : outParam Type) [i : outParam (Elt α)] : Prop where
  size : ∀ w, (sizeOf t).run P w = .ok (Elt.sz α) w
  load : ∀ w a (x : α), (∀ j u, (Elt.enc x)[j]? = some u → w.cell? (a.add j) = some u) → (Instr.loadAt t (.pointer (some a))).run P w = .ok (Elt.val x) w

theorem addr_zero (a : Addr) : a.add 0 = a := by simp [Addr.add]
theorem addr_addadd (a : Addr) (i j : Nat) : (a.add i).add j = a.add (i + j) := by
  unfold Addr.add
  by_cases h0 : i = 0
  · subst h0; simp
  · by_cases h1 : j = 0
    · subst h1; simp [h0]
    · have : ¬ i + j = 0 := by omega
      simp [h0, h1, this, Nat.add_assoc]

theorem Lay.scal {P : Program} {t : TypeId} {z : Value} {α : Type} [Elt α] [hS : Sc P t z] [hs : Scal α] : Lay P t α where
  size w := by rw [hs.sz]; exact run_sizeOf hS
  load w a x h := by
    have := h 0 (Elt.val x) (by rw [hs.enc]; rfl)
    rw [addr_zero] at this
    exact run_load1 hS this
theorem Lay.aggr {P : Program} {t : TypeId} {zs : List Value} {α : Type} [Elt α] [hS : Ag P t zs] [hs : Aggr α] (hz : zs.length = Elt.sz α) : Lay P t α where
  size w := by rw [← hz]; exact run_sizeOfA hS
  load w a x h := by
    rw [hs.val]
    exact run_loadA hS (by rw [Elt.len, hz]) h

/-! ### What a slice reads as -/
def RdL (w : World) (v : Value) {α : Type} [Elt α] (l : List α) : Prop := Rd w v (Elt.sz α) (encs l)

section
variable {α : Type} [Elt α]
/-- the place of the cell o behind a slice's begin -/
def elA (v : Value) (o : Nat) : Addr := match v with
  | .slice (some a) _ _ => a.add o
  | _ => ⟨0, 0, none⟩
/-- the place of an element -/
def elP (α : Type) [Elt α] (v : Value) (j : Nat) : Addr := elA v (j * Elt.sz α)
/-- v[lo:hi] -/
def cut (α : Type) [Elt α] (v : Value) (lo hi : Nat) : Value := match v with
  | .slice A n c => .slice (if c = lo then A else A.map (·.add (lo * Elt.sz α))) (hi - lo) (c - lo)
  | v => v

theorem RdL.form {w : World} {v : Value} {l : List α} (h : RdL w v l) : ∃ A c, v = .slice A l.length c ∧ l.length ≤ c ∧ c ≤ maxLen ∧ (0 < l.length → ∃ ad, A = some ad ∧ ∀ j o u, j < l.length → (h : j < l.length) → (Elt.enc l[j])[o]? = some u → w.cell? (ad.add (j * Elt.sz α + o)) = some u) := by
  obtain ⟨A, n, c, rfl, h1, h2, h3, h4⟩ := h
  have hn : l.length = n := by
    rw [encs_length] at h1
    exact Nat.eq_of_mul_eq_mul_right Elt.pos h1
  subst hn
  refine ⟨A, c, rfl, h2, h3, fun hp => ?_⟩
  obtain ⟨ad, rfl, h5⟩ := h4 (by rw [encs_length]; exact Nat.mul_pos hp Elt.pos)
  refine ⟨ad, rfl, fun j o u hj hj' hu => h5 _ u ?_⟩
  have ho : o < Elt.sz α := by
    have := (List.getElem?_eq_some_iff.1 hu).1
    rwa [Elt.len] at this
  rw [encs_get hj' ho]; exact hu

theorem RdL.cell {w : World} {v : Value} {l : List α} (h : RdL w v l) {j o : Nat} {u : Value} (hj : j < l.length) (hu : (Elt.enc l[j])[o]? = some u) : w.cell? ((elP α v j).add o) = some u := by
  obtain ⟨A, c, rfl, h1, h2, h3⟩ := h.form
  obtain ⟨ad, rfl, h4⟩ := h3 (by omega)
  have := h4 j o u hj hj hu
  simp only [elP, elA, addr_addadd]
  exact this

theorem RdL.nil (w : World) : RdL w (.slice none 0 0) ([] : List α) := rd_nil w _

theorem RdL.cut {w : World} {v : Value} {l : List α} (h : RdL w v l) {lo hi : Nat} (h1 : lo ≤ hi) (h2 : hi ≤ l.length) : RdL w (cut α v lo hi) ((l.drop lo).take (hi - lo)) := by
  obtain ⟨A, c, rfl, hc, hm, h3⟩ := h.form
  have hlen : ((l.drop lo).take (hi - lo)).length = hi - lo := by simp; omega
  refine ⟨_, _, _, rfl, by rw [encs_length, hlen], by omega, by omega, fun hp => ?_⟩
  rw [encs_length, hlen] at hp
  have hpos : 0 < hi - lo := Nat.pos_of_mul_pos_right hp
  obtain ⟨ad, rfl, h4⟩ := h3 (by omega)
  have hne : ¬ c = lo := by omega
  refine ⟨ad.add (lo * Elt.sz α), by simp [hne], fun j u hu => ?_⟩
  rw [addr_addadd]
  rw [← encs_take, ← encs_drop, List.getElem?_take] at hu
  split at hu
  · rw [List.getElem?_drop] at hu
    have hlt := (List.getElem?_eq_some_iff.1 hu).1
    rw [encs_length] at hlt
    obtain ⟨A', n', c', e, r1, r2, r3, r4⟩ := h
    cases e
    obtain ⟨ad', e, r5⟩ := r4 (by omega)
    cases e
    exact r5 _ u hu
  · cases hu

end
end Go.Proofs.Ytjdbdjmfimbbkaa
