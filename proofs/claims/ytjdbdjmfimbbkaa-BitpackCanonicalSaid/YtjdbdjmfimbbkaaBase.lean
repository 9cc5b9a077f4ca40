/- The rules of a small program logic over the kit's walk of code: what is known of a frame's slots and of memory is kept in two lists; one rule an operation. -/
import Derived.WalkKit
import Derived.RangeFuncNested
import Derived.RangeFuncCalls
set_option linter.unusedVariables false
set_option linter.unusedSimpArgs false
namespace Go.Proofs.Ytjdbdjmfimbbkaa
open Go.RowKit

/-- A type's shape. -/
class Und (P : Program) (t : TypeId) (u : outParam TypeDesc) : Prop where
  eq : P.underlying t = some u

/-! ### Slots -/
def look : List (Nat × Value) → Nat → Option Value
  | [], _ => none
  | (k, v) :: r, t => bif Nat.beq k t then some v else look r t

def ev (s : List (Nat × Value)) : Operand → Option Value
  | .tmp t => look s t
  | .const v => some v
  | .global g => some (.pointer (some ⟨g, 0, none⟩))
  | .func f => some (.func (.func f) #[] #[])

theorem beq_no {k t : Nat} (e : ¬ k = t) : Nat.beq k t = false := by
  cases h : Nat.beq k t with
  | false => rfl
  | true => exact absurd (Nat.eq_of_beq_eq_true h) e

structure Has (N : Nat) (s : List (Nat × Value)) (a : Act) : Prop where
  size : a.tmps.size = N
  at_ : ∀ t v, look s t = some v → a.tmps.getD t undef = v

theorem Has.ev {N : Nat} {s : List (Nat × Value)} {a : Act} (h : Has N s a) {x : Operand} {v : Value} (hx : ev s x = some v) : a.eval x = v := by
  cases x with
  | tmp t => exact h.at_ t v hx
  | const c => simpa [Ytjdbdjmfimbbkaa.ev, Act.eval] using hx
  | global g => simpa [Ytjdbdjmfimbbkaa.ev, Act.eval] using hx
  | func f => simpa [Ytjdbdjmfimbbkaa.ev, Act.eval] using hx

theorem Has.put {N : Nat} {s : List (Nat × Value)} {a : Act} (h : Has N s a) (d : Nat) (v : Value) (hd : Nat.blt d N = true) : Has N ((d, v) :: s) (a.put (some d) v) := by
  have hd' : d < N := Nat.blt_eq ▸ hd
  refine ⟨by simp [Act.put, h.size], fun t u hu => ?_⟩
  have hs := h.size
  unfold look at hu
  by_cases e : d = t
  · subst e
    simp only [Nat.beq_refl, cond_true, Option.some.injEq] at hu
    subst hu
    have : d < a.tmps.size := by omega
    simp [Act.put, Array.getD, this]
  · have hb : Nat.beq d t = false := beq_no e
    rw [hb] at hu
    simp only [cond_false] at hu
    have := h.at_ t u hu
    rw [← this]
    simp [Act.put, Array.getD_eq_getD_getElem?, Array.getElem?_setIfInBounds_ne e]

theorem Has.sub {N : Nat} {s s' : List (Nat × Value)} {a : Act} (h : Has N s a) (hs : ∀ t v, look s' t = some v → look s t = some v) : Has N s' a :=
  ⟨h.size, fun t v hv => h.at_ t v (hs t v hv)⟩

/-- every pair of the second list is found in the first -/
def subs (s : List (Nat × Value)) : List (Nat × Value) → Prop
  | [] => True
  | (k, v) :: r => look s k = some v ∧ subs s r

theorem subs.at_ {s : List (Nat × Value)} : ∀ {s' : List (Nat × Value)}, subs s s' → ∀ t v, look s' t = some v → look s t = some v
  | [], _, t, v, h => by simp [look] at h
  | (k, u) :: r, hs, t, v, h => by
    unfold look at h
    by_cases e : k = t
    · subst e
      simp only [Nat.beq_refl, cond_true, Option.some.injEq] at h
      subst h
      exact hs.1
    · have hb : Nat.beq k t = false := beq_no e
      rw [hb] at h
      exact subs.at_ hs.2 t v h

/-! ### Memory -/
inductive As where
  | box (b : Nat) (o : Obj)
  | own (v : Value) (e : TypeId) (sz n : Nat) (xs : List Value)

def As.foot : As → List Nat
  | .box b _ => [b]
  | .own v _ _ _ _ => v.ownBlock.toList

def As.ok (w : World) : As → Prop
  | .box b o => w.heap[b]? = some o
  | .own v e sz n xs => w.ownsRow 0 e sz v n xs

theorem As.foot_lt {w : World} {x : As} (h : x.ok w) : ∀ b ∈ x.foot, b < w.heap.size := by
  intro b hb
  cases x with
  | box b' o =>
    simp only [As.foot, List.mem_singleton] at hb
    subst hb
    exact (Array.getElem?_eq_some_iff.1 h).1
  | own v e sz n xs =>
    simp only [As.foot, Option.mem_toList] at hb
    exact (World.ownsRow.lt h b hb).2

theorem As.ok_same {w w' : World} {x : As} (h : x.ok w) (hs : ∀ b ∈ x.foot, w'.heap[b]? = w.heap[b]?) : x.ok w' := by
  cases x with
  | box b o => exact (hs b (by simp [As.foot])).trans h
  | own v e sz n xs =>
    refine ⟨h.1, ?_⟩
    rcases h.2 with hn | ⟨g, cap, cur, rfl, hb, hg, rest⟩
    · exact .inl hn
    · exact .inr ⟨g, cap, cur, rfl, hb, (hs g (by simp [As.foot, Value.ownBlock])).trans hg, rest⟩

structure St (w0 : World) (O : List Nat) (m : List As) (w : World) : Prop where
  os : w.os = w0.os
  tape : w.tape = w0.tape
  output : w.output = w0.output
  size : w0.heap.size ≤ w.heap.size
  keep : ∀ k, k < w0.heap.size → k ∉ O → w.heap[k]? = w0.heap[k]?
  ok : ∀ x ∈ m, x.ok w
  nodup : (m.flatMap As.foot).Nodup
  new : ∀ b ∈ m.flatMap As.foot, w0.heap.size ≤ b ∨ b ∈ O

theorem St.lt {w0 : World} {O : List Nat} {m : List As} {w : World} (h : St w0 O m w) : ∀ b ∈ m.flatMap As.foot, b < w.heap.size := by
  intro b hb
  obtain ⟨x, hx, hbx⟩ := List.mem_flatMap.1 hb
  exact As.foot_lt (h.ok x hx) b hbx

theorem St.refl (w : World) : St w [] [] w := ⟨rfl, rfl, rfl, Nat.le_refl _, fun _ _ _ => rfl, fun _ h => by simp at h, by simp, fun _ h => by simp at h⟩

theorem sub_flat {α β : Type} (f : α → List β) : ∀ {l' l : List α}, List.Sublist l' l → List.Sublist (l'.flatMap f) (l.flatMap f)
  | _, _, .slnil => by simp
  | _, _, .cons a h => by
    rw [List.flatMap_cons]
    exact (sub_flat f h).trans (List.sublist_append_right _ _)
  | _, _, .cons_cons a h => by
    rw [List.flatMap_cons, List.flatMap_cons]
    exact List.Sublist.append (List.Sublist.refl _) (sub_flat f h)

theorem St.one {w : World} {b : Nat} {o : Obj} (h : w.heap[b]? = some o) : St w [b] [.box b o] w :=
  ⟨rfl, rfl, rfl, Nat.le_refl _, fun _ _ _ => rfl, fun x hx => by
    simp only [List.mem_singleton] at hx
    subst hx
    exact h, by simp [As.foot], fun c hc => .inr (by simpa [As.foot] using hc)⟩

/-- What is not wanted any more is dropped. -/
theorem St.drop {w0 : World} {O : List Nat} {m m' : List As} {w : World} (h : St w0 O m w) (hm : List.Sublist m' m) : St w0 O m' w :=
  ⟨h.os, h.tape, h.output, h.size, h.keep, fun x hx => h.ok x (hm.subset hx),
    List.Sublist.nodup (sub_flat As.foot hm) h.nodup,
    fun b hb => h.new b ((sub_flat As.foot hm).subset hb)⟩

theorem St.perm {w0 : World} {O : List Nat} {m m' : List As} {w : World} (h : St w0 O m w) (hm : List.Perm m m') : St w0 O m' w :=
  ⟨h.os, h.tape, h.output, h.size, h.keep, fun x hx => h.ok x (hm.mem_iff.2 hx),
    (List.Perm.flatMap_right As.foot hm).nodup_iff.1 h.nodup,
    fun b hb => h.new b ((List.Perm.flatMap_right As.foot hm).mem_iff.2 hb)⟩

theorem St.below {w0 : World} {m : List As} {w : World} (h : St w0 [] m w) : Below w0.heap.size w0 w :=
  ⟨h.os, h.tape, h.output, h.size, fun k hk => h.keep k hk (by simp)⟩

theorem St.of_below {w0 : World} {w : World} (h : Below w0.heap.size w0 w) : St w0 [] [] w :=
  ⟨h.os, h.tape, h.output, h.size, fun k hk _ => h.block k hk, fun _ h => by simp at h, by simp, fun _ h => by simp at h⟩

/-- A call, or any step, that is told from w on: what it may have written is one of the blocks O', each of which is held in m at one of the places that go. -/
theorem St.step {w0 : World} {O O' : List Nat} {m mk mg m' : List As} {w w' : World} (h : St w0 O m w) (h' : St w O' m' w')
    (hp : List.Perm m (mk ++ mg)) (hO : ∀ b ∈ O', b ∈ mg.flatMap As.foot) : St w0 O (m' ++ mk) w' := by
  have hP := h.perm hp
  have hk : ∀ b ∈ mk.flatMap As.foot, b ∉ O' := by
    intro b hb hbo
    have h2 := hO b hbo
    have hn := hP.nodup
    rw [List.flatMap_append, List.nodup_append] at hn
    exact hn.2.2 b hb b h2 rfl
  refine ⟨h'.os.trans h.os, h'.tape.trans h.tape, h'.output.trans h.output, Nat.le_trans h.size h'.size, ?_, ?_, ?_, ?_⟩
  · intro k hk0 hkO
    have hk1 : k ∉ O' := by
      intro hc
      have := hP.new k (by rw [List.flatMap_append]; exact List.mem_append.2 (.inr (hO k hc)))
      rcases this with h1 | h1
      · omega
      · exact hkO h1
    rw [h'.keep k (Nat.lt_of_lt_of_le hk0 h.size) hk1, h.keep k hk0 hkO]
  · intro x hx
    rcases List.mem_append.1 hx with hx | hx
    · exact h'.ok x hx
    · have hx0 := hP.ok x (List.mem_append.2 (.inl hx))
      refine As.ok_same hx0 fun b hb => ?_
      have hb' : b ∈ mk.flatMap As.foot := List.mem_flatMap.2 ⟨x, hx, hb⟩
      exact h'.keep b (As.foot_lt hx0 b hb) (hk b hb')
  · rw [List.flatMap_append, List.nodup_append]
    refine ⟨h'.nodup, ?_, ?_⟩
    · have hn := hP.nodup
      rw [List.flatMap_append, List.nodup_append] at hn
      exact hn.1
    · intro a ha b hb e
      subst e
      have h1 : a < w.heap.size := hP.lt a (by rw [List.flatMap_append]; exact List.mem_append.2 (.inl hb))
      rcases h'.new a ha with h2 | h2
      · omega
      · exact hk a hb h2
  · intro b hb
    rw [List.flatMap_append] at hb
    rcases List.mem_append.1 hb with hb | hb
    · rcases h'.new b hb with h2 | h2
      · left; exact Nat.le_trans h.size h2
      · exact hP.new b (by rw [List.flatMap_append]; exact List.mem_append.2 (.inr (hO b h2)))
    · exact hP.new b (by rw [List.flatMap_append]; exact List.mem_append.2 (.inl hb))

theorem St.grow {w0 : World} {O : List Nat} {m m' : List As} {w w' : World} (h : St w0 O m w) (h' : St w [] m' w') : St w0 O (m' ++ m) w' :=
  h.step (mk := m) (mg := []) h' (by simp) (by simp)

theorem St.alloc {w0 : World} {O : List Nat} {m : List As} {w : World} (h : St w0 O m w) (o : Obj) : St w0 O (.box w.heap.size o :: m) (w.alloc o) :=
  h.grow (m' := [.box w.heap.size o]) ⟨rfl, rfl, rfl, by simp, fun k hk _ => Below.heap_alloc w o k hk, by
    intro x hx
    simp only [List.mem_singleton] at hx
    subst hx
    exact heap_alloc_new w o, by simp [As.foot], by
    intro b hb
    simp [As.foot] at hb
    subst hb
    exact .inl (Nat.le_refl _)⟩

theorem St.drew {w0 : World} {O : List Nat} {m : List As} {w : World} (h : St w0 O m w) : St w0 O m w.drew :=
  ⟨h.os, h.tape, h.output, h.size, h.keep, fun x hx => As.ok_same (h.ok x hx) fun _ _ => rfl, h.nodup, h.new⟩

/-- A block that is held is given another content. -/
theorem St.set {w0 : World} {O : List Nat} {m1 m2 : List As} {b : Nat} {o o' : Obj} {w w' : World} (h : St w0 O (m1 ++ .box b o :: m2) w)
    (hg : w.grownBy w' (some b)) (hb : w'.heap[b]? = some o') : St w0 O (m1 ++ .box b o' :: m2) w' := by
  have h2 : St w [b] [.box b o'] w' := ⟨hg.os, hg.tape, hg.output, hg.size, fun k hk hkb => hg.block k hk (by simpa using hkb), by
    intro x hx
    simp only [List.mem_singleton] at hx
    subst hx
    exact hb, by simp [As.foot], by
    intro c hc
    simp [As.foot] at hc
    exact .inr (by simp [hc])⟩
  have h3 := h.step (mk := m1 ++ m2) (mg := [.box b o]) h2 (by
    rw [List.append_assoc]
    refine List.Perm.append_left m1 ?_
    exact List.perm_append_comm (l₁ := [As.box b o])) (by simp [As.foot])
  refine h3.perm ?_
  simp only [List.singleton_append]
  exact (List.perm_middle).symm

end Go.Proofs.Ytjdbdjmfimbbkaa
