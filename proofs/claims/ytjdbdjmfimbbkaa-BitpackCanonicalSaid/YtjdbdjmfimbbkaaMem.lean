/- The rules of memory and of calls. -/
import Derived.Test.YtjdbdjmfimbbkaaOps
set_option linter.unusedVariables false
set_option linter.unusedSimpArgs false
namespace Go.Proofs.Ytjdbdjmfimbbkaa
open Go.RowKit

def notAgg : TypeDesc → Bool
  | .struct _ => false
  | .array _ _ => false
  | _ => true

/-- A type whose values take one cell. -/
class Sc (P : Program) (t : TypeId) (z : outParam Value) : Prop where
  info : ∃ i, P.info? t = some i ∧ i.zero = some z ∧ i.size = 1
  und : ∃ u, P.underlying t = some u ∧ notAgg u = true
  one : z.oneCell' = true

theorem Sc.of {P : Program} {t : TypeId} {z : Value} {u : TypeDesc} (h : (P.info? t).map (fun i => (i.zero, i.size)) = some (some z, 1)) (hu : P.underlying t = some u) (hn : notAgg u = true) (hz : z.oneCell' = true) : Sc P t z := by
  refine ⟨?_, ⟨u, hu, hn⟩, hz⟩
  cases hi : P.info? t with
  | none => rw [hi] at h; cases h
  | some i =>
    rw [hi] at h
    simp only [Option.map_some, Option.some.injEq, Prod.mk.injEq] at h
    exact ⟨i, rfl, h.1, h.2⟩

/-- A function with a body. -/
class En (P : Program) (f : FuncId) : Prop where
  run : ∀ args w, (callFunc f args).run P w = .ok (.enter f args) w
theorem En.of {P : Program} {f : FuncId} {fn : Func} (hf : P.funcs[f]? = some fn) (h1 : (fn.name == "runtime.NumGoroutine") = false) (h2 : fn.body.isNone = false) : En P f := ⟨fun args w => by
  simp only [callFunc, Sem.run_bind, run_program, Result.andThen, hf, h1, h2, Bool.false_eq_true, if_false, Sem.run_pure]⟩

theorem cells_one {v : Value} (h : v.oneCell' = true) : v.cells = #[v] := by cases v <;> first | rfl | (simp [Value.oneCell'] at h)

section
variable {P : Program} {w : World}
theorem run_underlying {t : TypeId} {u : TypeDesc} (h : P.underlying t = some u) : (underlying t).run P w = .ok u w := by simp [underlying, h]
theorem run_zero {t : TypeId} {z : Value} (h : Sc P t z) : (zeroValue t).run P w = .ok z w := by
  obtain ⟨i, h1, h2, h3⟩ := h.info
  simp [zeroValue, typeInfo, h1, h2]
theorem run_sizeOf {t : TypeId} {z : Value} (h : Sc P t z) : (sizeOf t).run P w = .ok 1 w := by
  obtain ⟨i, h1, h2, h3⟩ := h.info
  simp [sizeOf, typeInfo, h1, h3]
theorem run_isAgg {t : TypeId} {z : Value} (h : Sc P t z) : (isAgg t).run P w = .ok false w := by
  obtain ⟨u, h1, h2⟩ := h.und
  simp only [isAgg, Sem.run_bind, run_underlying h1, Result.andThen]
  cases u <;> first | rfl | (simp [notAgg] at h2)
theorem run_load1 {t : TypeId} {z v : Value} {a : Addr} (h : Sc P t z) (hc : w.cell? a = some v) : (Instr.loadAt t (.pointer (some a))).run P w = .ok v w := by
  simp [Instr.loadAt, Instr.sureAddr, loadVar, run_isAgg h, run_load, hc]
theorem run_store1 {t : TypeId} {z v : Value} {a : Addr} (h : Sc P t z) (hv : v.oneCell' = true) {u : Value} (hc : w.cell? a = some u) (hf : w.frozen? a = false) : (Instr.storeAt t (.pointer (some a)) v).run P w = .ok () (w.setCell a v) := by
  have h0 : a.add 0 = a := by simp [Addr.add]
  simp [Instr.storeAt, Instr.sureAddr, storeVar, run_sizeOf h, cells_one hv, storeCells, run_store P w a v .plain hv, hc, hf, h0]
end

/-! ### Where a block is held -/
/-- block b is held with the content o -/
class Held (b : Nat) (m : List As) (o : outParam Obj) : Prop where
  mem : As.box b o ∈ m
instance (priority := high) Held.here {b : Nat} {o : Obj} {r : List As} : Held b (.box b o :: r) o := ⟨List.Mem.head _⟩
instance (priority := low) Held.there {b : Nat} {o : Obj} {x : As} {r : List As} [h : Held b r o] : Held b (x :: r) o := ⟨List.Mem.tail _ h.mem⟩
/-- block b, that is held, is given the content o' -/
class PutC (b : Nat) (o' : Obj) (m : List As) (m' : outParam (List As)) : Prop where
  form : ∃ o m1 m2, m = m1 ++ .box b o :: m2 ∧ m' = m1 ++ .box b o' :: m2
instance (priority := high) PutC.here {b : Nat} {o o' : Obj} {r : List As} : PutC b o' (.box b o :: r) (.box b o' :: r) := ⟨o, [], r, rfl, rfl⟩
instance (priority := low) PutC.there {b : Nat} {o' : Obj} {x : As} {r r' : List As} [h : PutC b o' r r'] : PutC b o' (x :: r) (x :: r') := ⟨by
  obtain ⟨o, m1, m2, h1, h2⟩ := h.form
  exact ⟨o, x :: m1, m2, by rw [h1]; rfl, by rw [h2]; rfl⟩⟩

instance Held.app {b : Nat} {o : Obj} {x : As} {r l : List As} [h : Held b (x :: (r ++ l)) o] : Held b ((x :: r) ++ l) o := h
instance Held.app0 {b : Nat} {o : Obj} {l : List As} [h : Held b l o] : Held b ([] ++ l) o := h
instance PutC.app {b : Nat} {o' : Obj} {x : As} {r l m' : List As} [h : PutC b o' (x :: (r ++ l)) m'] : PutC b o' ((x :: r) ++ l) m' := h
instance PutC.app0 {b : Nat} {o' : Obj} {l m' : List As} [h : PutC b o' l m'] : PutC b o' ([] ++ l) m' := h

inductive Put (b : Nat) (o o' : Obj) : List As → List As → Prop
  | here {r : List As} : Put b o o' (.box b o :: r) (.box b o' :: r)
  | there {x : As} {r r' : List As} : Put b o o' r r' → Put b o o' (x :: r) (x :: r')

theorem Put.form {b : Nat} {o o' : Obj} {m m' : List As} (h : Put b o o' m m') : ∃ m1 m2, m = m1 ++ .box b o :: m2 ∧ m' = m1 ++ .box b o' :: m2 := by
  induction h with
  | here => exact ⟨[], _, rfl, rfl⟩
  | there _ ih =>
    obtain ⟨m1, m2, h1, h2⟩ := ih
    exact ⟨_ :: m1, m2, by rw [h1]; rfl, by rw [h2]; rfl⟩

inductive Take (x : As) : List As → List As → Prop
  | here {r : List As} : Take x (x :: r) r
  | there {y : As} {r r' : List As} : Take x r r' → Take x (y :: r) (y :: r')

theorem Take.perm {x : As} {m m' : List As} (h : Take x m m') : List.Perm m (m' ++ [x]) := by
  induction h with
  | here => exact (List.perm_append_comm (l₁ := [x]))
  | there _ ih => exact List.Perm.cons _ ih

theorem perm_pick {x : As} {m mk m' : List As} (h : Take x m mk) (hp : List.Perm mk m') : List.Perm m (x :: m') :=
  h.perm.trans ((List.perm_append_comm (l₁ := mk) (l₂ := [x])).trans (List.Perm.cons x hp))

/-! ### What can be read -/
def Cell (w0 : World) (O : List Nat) (m : List As) (a : Addr) (v : Value) : Prop := ∀ w, St w0 O m w → w.cell? a = some v

/-- The slice v reads as the cells xs, sz to an element. -/
def Rd (w : World) (v : Value) (sz : Nat) (xs : List Value) : Prop :=
  ∃ A n c, v = .slice A n c ∧ xs.length = n * sz ∧ n ≤ c ∧ c ≤ maxLen ∧ (0 < xs.length → ∃ ad, A = some ad ∧ ∀ j u, xs[j]? = some u → w.cell? (ad.add j) = some u)

def Value.at_ : Value → Option Nat
  | .slice (some a) _ _ => some a.block
  | _ => none

/-- It reads so in the world w0, and lies in no block of O. -/
structure RdO (w0 : World) (O : List Nat) (v : Value) (sz : Nat) (xs : List Value) : Prop where
  rd : Rd w0 v sz xs
  out : 0 < xs.length → ∀ b, Value.at_ v = some b → b ∉ O

def RdS (w0 : World) (O : List Nat) (m : List As) (v : Value) (sz : Nat) (xs : List Value) : Prop := ∀ w, St w0 O m w → Rd w v sz xs

theorem St.cell {w0 : World} {O : List Nat} {m : List As} {w : World} (h : St w0 O m w) {a : Addr} {v : Value} (hc : w0.cell? a = some v) (hO : a.block ∉ O) : w.cell? a = some v := by
  have hlt := World.block_lt_of_cell? w0 a hc
  rw [← hc]
  exact World.cell?_of_block (h.keep _ hlt hO)

theorem add_block (a : Addr) (n : Nat) : (a.add n).block = a.block := by unfold Addr.add; split <;> rfl

theorem RdO.now {w0 : World} {O : List Nat} {v : Value} {sz : Nat} {xs : List Value} (h : RdO w0 O v sz xs) {m : List As} : RdS w0 O m v sz xs := fun w hw => by
  obtain ⟨A, n, c, rfl, h1, h2, h3, h4⟩ := h.rd
  refine ⟨A, n, c, rfl, h1, h2, h3, fun hp => ?_⟩
  obtain ⟨ad, rfl, h5⟩ := h4 hp
  refine ⟨ad, rfl, fun j u hu => hw.cell (h5 j u hu) ?_⟩
  rw [add_block]
  exact h.out hp _ rfl

theorem rd_nil (w : World) (sz : Nat) : Rd w (.slice none 0 0) sz [] := ⟨none, 0, 0, rfl, by simp, Nat.le_refl _, Nat.zero_le _, fun h => absurd h (by simp)⟩

theorem rd_own {w : World} {v : Value} {e : TypeId} {sz n b : Nat} {xs : List Value} (h : w.ownsRow b e sz v n xs) : Rd w v sz xs := by
  obtain ⟨h1, h2⟩ := h
  rcases h2 with ⟨rfl, rfl⟩ | ⟨g, cap, cur, rfl, hb, hg, hn, hc, hs, ht⟩
  · have : xs = [] := List.eq_nil_of_length_eq_zero (by simpa using h1)
    subst this
    exact rd_nil w sz
  · refine ⟨_, n, cap, rfl, h1, hn, hc, fun hp => ⟨_, rfl, fun j u hu => ?_⟩⟩
    subst ht
    have hj := (List.getElem?_eq_some_iff.1 hu).1
    rw [List.getElem?_take] at hu
    split at hu
    · have : (⟨g, 0, none⟩ : Addr).add j = ⟨g, j, none⟩ := by unfold Addr.add; split <;> simp_all
      rw [this]
      simp only [World.cell?, hg]
      simpa using hu
    · cases hu

theorem RdS.own {w0 : World} {O : List Nat} {m : List As} {v : Value} {e : TypeId} {sz n : Nat} {xs : List Value} (h : As.own v e sz n xs ∈ m) : RdS w0 O m v sz xs := fun w hw => rd_own (hw.ok _ h)

theorem RdS.to {w0 : World} {O : List Nat} {m : List As} {v : Value} {sz : Nat} {xs : List Value} (h : RdS w0 O m v sz xs) {w : World} (hw : St w0 O m w) : RdO w [] v sz xs := ⟨h w hw, fun _ _ _ => by simp⟩

/-- What lay when the call began lies in no block that is new. -/
theorem RdO.new {w0 : World} {O O' : List Nat} {m : List As} {v : Value} {sz : Nat} {xs : List Value} (h : RdO w0 O v sz xs) {w : World} (hw : St w0 O m w) (hO : ∀ b ∈ O', w0.heap.size ≤ b ∨ b ∈ O) : RdO w O' v sz xs := by
  refine ⟨h.now w hw, fun hp b hb hbO => ?_⟩
  obtain ⟨A, n, c, rfl, h1, h2, h3, h4⟩ := h.rd
  obtain ⟨ad, rfl, h5⟩ := h4 hp
  simp only [Value.at_, Option.some.injEq] at hb
  subst hb
  have hc := h5 0 xs[0] (by simp [hp])
  have hlt := World.block_lt_of_cell? w0 _ hc
  rw [add_block] at hlt
  rcases hO _ hbO with h6 | h6
  · omega
  · exact h.out hp _ rfl h6

theorem RdO.old {w : World} {v : Value} {sz : Nat} {xs : List Value} (h : Rd w v sz xs) : RdO w [] v sz xs := ⟨h, fun _ _ _ => by simp⟩

theorem rd_box {w : World} {b : Nat} {e : TypeId} {mk : Nat × Nat} {cs : List Value} {n : Nat} (h : w.heap[b]? = some (.cells cs.toArray e mk)) (hn : cs.length = n) (hm : n ≤ maxLen) : Rd w (.slice (some ⟨b, 0, none⟩) n n) 1 cs := by
  refine ⟨_, n, n, rfl, by simp [hn], Nat.le_refl _, hm, fun hp => ⟨_, rfl, fun j u hu => ?_⟩⟩
  have : (⟨b, 0, none⟩ : Addr).add j = ⟨b, j, none⟩ := by unfold Addr.add; split <;> simp_all
  rw [this]
  simp only [World.cell?, h]
  simpa using hu

def evs (s : List (Nat × Value)) : List Operand → Option (List Value)
  | [] => some []
  | x :: r => match ev s x, evs s r with
    | some v, some vs => some (v :: vs)
    | _, _ => none

theorem evs_map {N : Nat} {s : List (Nat × Value)} {a : Act} (h : Has N s a) : ∀ {xs : List Operand} {vs : List Value}, evs s xs = some vs → xs.map a.eval = vs
  | [], vs, e => by simp [evs] at e; simp [e]
  | x :: r, vs, e => by
    simp only [evs] at e
    split at e
    · rename_i v us h1 h2
      simp only [Option.some.injEq] at e
      subst e
      simp [h.ev h1, evs_map h h2]
    · cases e

section
variable {ro : Option Nat} {P : Program} {N : Nat} {D : List Deferred} {w0 : World} {O : List Nat} {ops : Array Oper} {l : List Oper} {s : List (Nat × Value)} {m : List As} {Q : Exit → Act → World → Prop}
variable {d : Nat} {ty : TypeId} {pos : String} {af : Array Edge}

theorem G_alloc {t : TypeId} {z : Value} [hS : Sc P t z] (hN : Nat.blt d N = true) (k : ∀ b, G ro P N D w0 O ops l ((d, .pointer (some ⟨b, 0, none⟩)) :: s) (.box b (.cells #[z] t) :: m) Q) :
    G ro P N D w0 O ops (⟨some d, .alloc t, ty, pos, af, none⟩ :: l) s m Q :=
  G_any (ι := Nat) (fun b => .pointer (some ⟨b, 0, none⟩)) (fun b => .box b (.cells #[z] t) :: m) (fun _ => True) rfl rfl (by simp) hN
    (fun a w hs hm => ⟨w.heap.size, w.alloc (.cells #[z] t), trivial, by simp [execOp, Instr.alloc, run_zero hS, newVar, newRow, cells_one hS.one], hm.alloc _⟩) (fun b _ => k b)

theorem G_box {t : TypeId} {x : Operand} {v : Value} (hx : ev s x = some v) (hN : Nat.blt d N = true) (k : ∀ b, G ro P N D w0 O ops l ((d, .pointer (some ⟨b, 0, none⟩)) :: s) (.box b (.cells v.cells t) :: m) Q) :
    G ro P N D w0 O ops (⟨some d, .box t x, ty, pos, af, none⟩ :: l) s m Q :=
  G_any (ι := Nat) (fun b => .pointer (some ⟨b, 0, none⟩)) (fun b => .box b (.cells v.cells t) :: m) (fun _ => True) rfl rfl (by simp) hN
    (fun a w hs hm => ⟨w.heap.size, w.alloc (.cells v.cells t), trivial, by simp [execOp, Instr.box, newVar, newRow, hs.ev hx], hm.alloc _⟩) (fun b _ => k b)

theorem G_load {t e : TypeId} {z v : Value} {x : Operand} {b off : Nat} {cs : Array Value} {mk : Nat × Nat} [hS : Sc P t z] (hx : ev s x = some (.pointer (some ⟨b, off, none⟩))) [hm : Held b m (.cells cs e mk)] (hc : cs[off]? = some v) (hN : Nat.blt d N = true)
    (k : G ro P N D w0 O ops l ((d, v) :: s) m Q) : G ro P N D w0 O ops (⟨some d, .load t x, ty, pos, af, none⟩ :: l) s m Q :=
  G_val v rfl rfl (by simp) hN (fun a w hs hw => by
    have h1 : w.heap[b]? = some (.cells cs e mk) := hw.ok _ hm.mem
    have h2 : w.cell? ⟨b, off, none⟩ = some v := by simp [World.cell?, h1, hc]
    simp [execOp, hs.ev hx, run_load1 hS h2]) k

theorem G_load_cell {t : TypeId} {z v : Value} {x : Operand} {ad : Addr} [hS : Sc P t z] (hx : ev s x = some (.pointer (some ad))) (hc : Cell w0 O m ad v) (hN : Nat.blt d N = true)
    (k : G ro P N D w0 O ops l ((d, v) :: s) m Q) : G ro P N D w0 O ops (⟨some d, .load t x, ty, pos, af, none⟩ :: l) s m Q :=
  G_val v rfl rfl (by simp) hN (fun a w hs hw => by simp [execOp, hs.ev hx, run_load1 hS (hc w hw)]) k

theorem G_store {t e : TypeId} {z v u : Value} {x y : Operand} {b off : Nat} {cs cs' : Array Value} {m' : List As} [hS : Sc P t z] (hx : ev s x = some (.pointer (some ⟨b, off, none⟩))) (hy : ev s y = some v) (h1 : v.oneCell' = true)
    [hh : Held b m (.cells cs e)] (hc : cs[off]? = some u) (hcs : cs.setIfInBounds off v = cs') [hm : PutC b (.cells cs' e) m m'] (k : G ro P N D w0 O ops l s m' Q) : G ro P N D w0 O ops (⟨none, .store t x y, ty, pos, af, none⟩ :: l) s m Q :=
  G_unit rfl rfl (by simp) (fun a w hs hw => by
    obtain ⟨o, m1, m2, rfl, rfl⟩ := hm.form
    have hb : w.heap[b]? = some (.cells cs e) := hw.ok (.box b (.cells cs e)) hh.mem
    have h2 : w.cell? ⟨b, off, none⟩ = some u := by simp [World.cell?, hb, hc]
    have h3 : w.frozen? ⟨b, off, none⟩ = false := by simp [World.frozen?, hb]
    refine ⟨w.setCell ⟨b, off, none⟩ v, by simp [execOp, hs.ev hx, hs.ev hy, run_store1 hS h1 h2 h3], hw.set (grownBy_setCell' w b v off) ?_⟩
    subst hcs
    simp [World.setCell, Array.getElem?_modify, hb]) k
where grownBy_setCell' (w : World) (b : Nat) (v : Value) (off : Nat) : w.grownBy (w.setCell ⟨b, off, none⟩ v) (some b) :=
  ⟨rfl, rfl, rfl, by simp, fun k _ hk => Below.heap_setCell _ _ _ k (fun e => hk (by rw [e]))⟩

theorem G_nilCheck {x : Operand} {ad : Addr} (hx : ev s x = some (.pointer (some ad))) (hN : Nat.blt d N = true) (k : G ro P N D w0 O ops l ((d, .pointer (some ad)) :: s) m Q) :
    G ro P N D w0 O ops (⟨some d, .nilCheck x, ty, pos, af, none⟩ :: l) s m Q :=
  G_val _ rfl rfl (by simp) hN (fun a w hs hm => by simp [execOp, hs.ev hx]) k

theorem G_len {x : Operand} {t e : TypeId} {A : Option Addr} {n c : Nat} [ht : Und P t (.slice e)] (hx : ev s x = some (.slice A n c)) (hN : Nat.blt d N = true) (k : G ro P N D w0 O ops l ((d, I n) :: s) m Q) :
    G ro P N D w0 O ops (⟨some d, .call ⟨.builtin .len, #[x], #[t]⟩, ty, pos, af, none⟩ :: l) s m Q :=
  G_val _ rfl rfl (by simp) hN (fun a w hs hm => by
    simp [execOp, resolve, invoke, builtin, Builtin.len_, hs.ev hx, run_underlying ht.eq, goInt, I]) k

/-- the address of an element of a slice -/
theorem G_index {t e : TypeId} {z : Value} {x y : Operand} {v : Value} {α : Type} {f : α → Value} {xs : List α} {j : Nat} [ht : Und P t (.slice e)] [hS : Sc P e z] (hx : ev s x = some v) (hy : ev s y = some (I j)) (hR : RdS w0 O m v 1 (xs.map f)) (hj : j < xs.length) (hN : Nat.blt d N = true)
    (k : ∀ ad, Cell w0 O m ad (f xs[j]) → G ro P N D w0 O ops l ((d, .pointer (some ad)) :: s) m Q) : G ro P N D w0 O ops (⟨some d, .indexAddr t x y, ty, pos, af, none⟩ :: l) s m Q := fun a w hs hdf hm => by
  obtain ⟨A, n, c, rfl, h1, h2, h3, h4⟩ := hR w hm
  obtain ⟨ad, rfl, h5⟩ := h4 (by simp; omega)
  have hn : xs.length = n := by simpa using h1
  refine G_val (.pointer (some (ad.add j))) rfl rfl (by simp) hN (fun a w hs hm => ?_) (k (ad.add j) (fun w' hw' => ?_)) a w hs hdf hm
  · have hjn : (j : Int) < (n : Int) := by omega
    have hj0 : (0 : Int) ≤ (j : Int) := by omega
    simp only [execOp, Instr.indexAt, hs.ev hx, hs.ev hy, asIntOf, run_underlying ht.eq, run_sizeOf hS, Sem.run_bind, Sem.run_pure, Result.andThen, hjn, hj0, and_self, if_true, Nat.mul_one, Int.toNat_natCast]
  · obtain ⟨A', n', c', e', _, _, _, h4'⟩ := hR w' hw'
    cases e'
    obtain ⟨ad', e'', h5'⟩ := h4' (by simp; omega)
    cases e''
    exact h5' j _ (by simp [hj])

/-- .. of one that lay before -/
theorem G_index_old {t e : TypeId} {z : Value} {x y : Operand} {v : Value} {α : Type} {f : α → Value} {xs : List α} {j : Nat} [ht : Und P t (.slice e)] [hS : Sc P e z] (hx : ev s x = some v) (hy : ev s y = some (I j)) (hR : RdO w0 O v 1 (xs.map f)) (hj : j < xs.length) (hN : Nat.blt d N = true)
    (k : ∀ ad, (∀ m, Cell w0 O m ad (f xs[j])) → G ro P N D w0 O ops l ((d, .pointer (some ad)) :: s) m Q) : G ro P N D w0 O ops (⟨some d, .indexAddr t x y, ty, pos, af, none⟩ :: l) s m Q := by
  obtain ⟨A, n, c, rfl, h1, h2, h3, h4⟩ := hR.rd
  obtain ⟨ad, rfl, h5⟩ := h4 (by simp; omega)
  have hn : xs.length = n := by simpa using h1
  refine G_val (.pointer (some (ad.add j))) rfl rfl (by simp) hN (fun a w hs hm => ?_) (k (ad.add j) (fun m w' hw' => ?_))
  · have hjn : (j : Int) < (n : Int) := by omega
    have hj0 : (0 : Int) ≤ (j : Int) := by omega
    simp only [execOp, Instr.indexAt, hs.ev hx, hs.ev hy, asIntOf, run_underlying ht.eq, run_sizeOf hS, Sem.run_bind, Sem.run_pure, Result.andThen, hjn, hj0, and_self, if_true, Nat.mul_one, Int.toNat_natCast]
  · exact hw'.cell (h5 j _ (by simp [hj])) (by rw [add_block]; exact hR.out (by simp; omega) _ rfl)

/-- the place of an element of a slice whose address is known -/
theorem G_indexP {t e : TypeId} {z : Value} {x y : Operand} {ad : Addr} {n c j : Nat} [ht : Und P t (.slice e)] [hS : Sc P e z] (hx : ev s x = some (.slice (some ad) n c)) (hy : ev s y = some (I j)) (hj : j < n) (hN : Nat.blt d N = true)
    (k : G ro P N D w0 O ops l ((d, .pointer (some (ad.add j))) :: s) m Q) : G ro P N D w0 O ops (⟨some d, .indexAddr t x y, ty, pos, af, none⟩ :: l) s m Q :=
  G_val _ rfl rfl (by simp) hN (fun a w hs hm => by
    have hjn : (j : Int) < (n : Int) := by omega
    have hj0 : (0 : Int) ≤ (j : Int) := by omega
    simp only [execOp, Instr.indexAt, hs.ev hx, hs.ev hy, asIntOf, run_underlying ht.eq, run_sizeOf hS, Sem.run_bind, Sem.run_pure, Result.andThen, hjn, hj0, and_self, if_true, Nat.mul_one, Int.toNat_natCast]) k

theorem G_makeFunc {fn : Fn} {f c : Array Operand} {vs us : List Value} (hf : evs s f.toList = some vs) (hc : evs s c.toList = some us) (hN : Nat.blt d N = true) (k : G ro P N D w0 O ops l ((d, .func fn vs.toArray us.toArray) :: s) m Q) :
    G ro P N D w0 O ops (⟨some d, .makeFunc fn f c, ty, pos, af, none⟩ :: l) s m Q :=
  G_val _ rfl rfl (by simp) hN (fun a w hs hm => by
    have h1 := evs_map hs hf
    have h2 := evs_map hs hc
    have e1 : f.map a.eval = vs.toArray := by rw [← h1]; apply Array.ext'; simp
    have e2 : c.map a.eval = us.toArray := by rw [← h2]; apply Array.ext'; simp
    simp [execOp, Instr.makeFunc, e1, e2]) k

/-! ### Calls -/
/-- What a function's contract says: some i with Φ i: V i is handed back, M i is held behind; of what lay before, the blocks O' alone may have turned. -/
def Ret {ι : Type} (w : World) (O' : List Nat) (Φ : ι → Prop) (V : ι → Value) (M : ι → List As) (e : Ending) (w' : World) : Prop := ∃ i, Φ i ∧ e = .returned (V i) ∧ St w O' (M i) w'
/-- one value, nothing held -/
def Is (w : World) (v : Value) (e : Ending) (w' : World) : Prop := e = .returned v ∧ St w [] [] w'

theorem G_call_any {ι : Type} {f : FuncId} {args : Array Operand} {at_ : Array TypeId} {x : Operand} {first cap vals : List Value} {O' : List Nat} {mk mg : List As} {Φ : ι → Prop} {V : ι → Value} {M : ι → List As}
    [he : En P f] (hf : ev s x = some (.func (.func f) first.toArray cap.toArray)) (ha : evs s args.toList = some vals)
    (hp : List.Perm m (mk ++ mg)) (hO : ∀ b ∈ O', b ∈ mg.flatMap As.foot)
    (hc : ∀ w, St w0 O m w → Calls P f (first ++ vals ++ cap).toArray w (Ret w O' Φ V M)) (hN : Nat.blt d N = true)
    (k : ∀ i, Φ i → G ro P N D w0 O ops l ((d, V i) :: s) (M i ++ mk) Q) :
    G ro P N D w0 O ops (⟨some d, .call ⟨.value x, args, at_⟩, ty, pos, af, none⟩ :: l) s m Q := fun a w hs hdf hm => by
  have h1 : args.map a.eval = vals.toArray := by rw [← evs_map hs ha]; apply Array.ext'; simp
  simp only [wpL, Region.wanted, if_true]
  refine ⟨fun _ _ => trivial, ?_⟩
  rw [Oper.semAt_eq _ _ _ (by simp)]
  have hrun : (execOp a.eval ⟨some d, .call ⟨.value x, args, at_⟩, ty, pos, af, none⟩).run P w = .ok (.enter f (first ++ vals ++ cap).toArray) w := by
    have h2 := he.run (first ++ vals ++ cap).toArray w
    have e3 : first.toArray ++ vals.toArray ++ cap.toArray = (first ++ vals ++ cap).toArray := by simp
    simp only [execOp, resolve, hs.ev hf, Deferred.ofValue, h1, Sem.run_bind, Sem.run_pure, Result.andThen, invoke, e3, h2]
  rw [hrun, Oper.uponIn_enter]
  refine ⟨fun h => by simp [FW] at h, callsFW ((hc w hm).mono ?_)⟩
  rintro e w' ⟨i, hi, rfl, hst⟩
  exact k i hi _ _ (hs.put d (V i) hN) (by simpa [Act.put] using hdf) (hm.step hst hp hO)

/-- a named function: a value, nothing else -/
theorem G_call {f : FuncId} {args : Array Operand} {at_ : Array TypeId} {vals : List Value} {v : Value} [he : En P f] (ha : evs s args.toList = some vals)
    (hc : ∀ w, St w0 O m w → Calls P f vals.toArray w (Is w v)) (hN : Nat.blt d N = true)
    (k : G ro P N D w0 O ops l ((d, v) :: s) m Q) : G ro P N D w0 O ops (⟨some d, .call ⟨.value (.func f), args, at_⟩, ty, pos, af, none⟩ :: l) s m Q :=
  G_call_any (ι := Unit) (first := []) (cap := []) (O' := []) (mk := m) (mg := []) (Φ := fun _ => True) (V := fun _ => v) (M := fun _ => []) rfl ha (by simp) (by simp)
    (fun w hw => by simpa using (hc w hw).mono (fun e w' h => ⟨(), trivial, h.1, h.2⟩)) hN (fun _ _ => k)

/-- .. new memory -/
theorem G_call_new {ι : Type} {f : FuncId} {args : Array Operand} {at_ : Array TypeId} {vals : List Value} {Φ : ι → Prop} {V : ι → Value} {M : ι → List As} [he : En P f] (ha : evs s args.toList = some vals)
    (hc : ∀ w, St w0 O m w → Calls P f vals.toArray w (Ret w [] Φ V M)) (hN : Nat.blt d N = true)
    (k : ∀ i, Φ i → G ro P N D w0 O ops l ((d, V i) :: s) (M i ++ m) Q) : G ro P N D w0 O ops (⟨some d, .call ⟨.value (.func f), args, at_⟩, ty, pos, af, none⟩ :: l) s m Q :=
  G_call_any (first := []) (cap := []) (O' := []) (mk := m) (mg := []) rfl ha (by simp) (by simp) (fun w hw => by simpa using hc w hw) hN k

/-- .. one held block is turned -/
theorem G_call_box {ι : Type} {f : FuncId} {args : Array Operand} {at_ : Array TypeId} {x : Operand} {first cap vals : List Value} {b : Nat} {o : Obj} {mk : List As} {Φ : ι → Prop} {V : ι → Value} {M : ι → List As}
    [he : En P f] (hf : ev s x = some (.func (.func f) first.toArray cap.toArray)) (ha : evs s args.toList = some vals) (hp : Take (.box b o) m mk)
    (hc : ∀ w, St w0 O m w → Calls P f (first ++ vals ++ cap).toArray w (Ret w [b] Φ V M)) (hN : Nat.blt d N = true)
    (k : ∀ i, Φ i → G ro P N D w0 O ops l ((d, V i) :: s) (M i ++ mk) Q) :
    G ro P N D w0 O ops (⟨some d, .call ⟨.value x, args, at_⟩, ty, pos, af, none⟩ :: l) s m Q :=
  G_call_any (mk := mk) (mg := [.box b o]) hf ha hp.perm (by simp [As.foot]) hc hN k

/-- a slice literal of one-cell elements -/
theorem G_buildSlice {t e : TypeId} {z : Value} {n : Nat} {parts : Array (Nat × Operand)} {vals : List Value} [ht : Und P t (.slice e)] [hS : Sc P e z]
    (hv : evs s (parts.toList.map (·.2)) = some vals) (hi : parts.toList.map (·.1) = List.range n) (hn : vals.length = n) (h1 : vals.all (·.oneCell') = true) (hsz : Nat.ble n 1000 = true) (hN : Nat.blt d N = true)
    (k : ∀ b, G ro P N D w0 O ops l ((d, .slice (some ⟨b, 0, none⟩) n n) :: s) (.box b (.cells vals.toArray e) :: m) Q) :
    G ro P N D w0 O ops (⟨some d, .buildSlice t n parts, ty, pos, af, none⟩ :: l) s m Q :=
  G_any (ι := Nat) (fun b => .slice (some ⟨b, 0, none⟩) n n) (fun b => .box b (.cells vals.toArray e) :: m) (fun _ => True) rfl rfl (by simp) hN
    (fun a w hs hm => ⟨w.heap.size, w.alloc (.cells vals.toArray e), trivial, by
      have hp : (parts.toList.map fun x => (x.1, a.eval x.2)) = (List.range n).zip vals := by
        rw [← hi, ← evs_map hs hv]
        generalize parts.toList = ps
        induction ps with
        | nil => rfl
        | cons x r ih => simp [ih]
      have hfill := fill_all (n := n) vals hn (by simpa using h1)
      have hle : n ≤ 1000 := Nat.le_of_ble_eq_true hsz
      have hlim : ¬ 2 ^ 24 < n := by
        have : (1000 : Nat) ≤ 2 ^ 24 := by decide
        omega
      generalize hL : (2 : Nat) ^ 24 = L at hlim
      by_cases h0 : n = 0
      · subst h0
        have hv0 : vals = [] := List.eq_nil_of_length_eq_zero hn
        subst hv0
        have hp0 : parts = #[] := by
          have : parts.toList = [] := by simpa using hi
          simpa using this
        subst hp0
        simp [execOp, Instr.buildSlice, run_underlying ht.eq, run_sizeOf hS, newRow, Instr.fill]
        have : Array.range 0 = #[] := by apply Array.ext'; simp
        rw [this, Array.map_empty]
      · simp [execOp, Instr.buildSlice, run_underlying ht.eq, run_sizeOf hS, hL, hlim, h0, run_zero hS, cells_one hS.one, newRow]
        rw [hp, hfill _ (by simp)]
        rfl, hm.alloc _⟩) (fun b _ => k b)
where
  fill_from : ∀ (vals : List Value) (i : Nat) (cs : Array Value), (∀ v ∈ vals, v.oneCell' = true) → i + vals.length = cs.size →
      Instr.fill (fun i => some (i * 1, 1)) cs ((List.range' i vals.length).zip vals) = some (cs.extract 0 i ++ vals.toArray)
    | [], i, cs, _, h => by
      simp only [List.length_nil, Nat.add_zero] at h
      subst h
      simp [Instr.fill]
    | v :: r, i, cs, h1, h => by
      simp only [List.length_cons] at h
      have hv := h1 v (by simp)
      simp only [List.length_cons, List.range'_succ, List.zip_cons_cons, Instr.fill, cells_one hv]
      have hlt : i < cs.size := by omega
      have hc : ¬ ((#[v] : Array Value).size ≠ 1 ∨ i * 1 + (#[v] : Array Value).size > cs.size) := by simp; omega
      rw [if_neg (by simpa using hc)]
      rw [show (#[v] : Array Value).zipIdx = #[(v, 0)] from rfl]
      have := fill_from r (i + 1) (cs.setIfInBounds i v) (fun u hu => h1 u (by simp [hu])) (by simp; omega)
      simp only [Nat.mul_one, Nat.add_zero] at this ⊢
      simp only [List.foldl_toArray', List.foldl_cons, List.foldl_nil, Nat.add_zero] at this ⊢
      rw [this]
      congr 1
      apply Array.ext'
      simp only [Array.toList_append, Array.toList_extract, Array.toList_setIfInBounds, List.extract_eq_take_drop, List.drop_zero, Nat.sub_zero]
      have hl : i < cs.toList.length := by simpa using hlt
      rw [List.take_set, List.take_succ_eq_append_getElem hl]
      have hm : min i cs.size = i := Nat.min_eq_left (by omega)
      simp [List.set_append, hm]
  fill_all {n : Nat} (vals : List Value) (hn : vals.length = n) (h : ∀ v ∈ vals, v.oneCell' = true) (cs : Array Value) (hc : cs.size = n) :
      Instr.fill (fun i => some (i, 1)) cs ((List.range n).zip vals) = some vals.toArray := by
    subst hn
    have := fill_from vals 0 cs h (by simp [hc])
    simp only [Nat.mul_one] at this
    rw [List.range_eq_range', this]
    simp

end
end Go.Proofs.Ytjdbdjmfimbbkaa
