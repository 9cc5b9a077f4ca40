/- Contracts by classes; loops whose other slots stay; ends. -/
import Derived.Test.YtjdbdjmfimbbkaaHold
set_option linter.unusedVariables false
set_option linter.unusedSimpArgs false
namespace Go.Proofs.Ytjdbdjmfimbbkaa
open Go.RowKit

class AppL (a b : List Value) (r : outParam (List Value)) : Prop where
  eq : a ++ b = r
instance appL_nil {b : List Value} : AppL [] b b := ⟨rfl⟩
instance appL_cons {x : Value} {a b r : List Value} [h : AppL a b r] : AppL (x :: a) b (x :: r) := ⟨by rw [← h.eq]; rfl⟩
instance appL_nil2 {a : List Value} : AppL a [] a := ⟨List.append_nil a⟩

/-- a is b: a fact at hand, or a itself -/
class Eqn {α : Type} (a : α) (b : outParam α) : Prop where
  eq : a = b
instance (priority := low) eqn_self {α : Type} {a : α} : Eqn a a := ⟨rfl⟩

/-- The call hands back v and leaves all as it was. -/
class CallV (P : Program) (w0 : World) (O : List Nat) (m : List As) (f : FuncId) (args : List Value) (side : outParam Prop) (v : outParam Value) : Prop where
  call : side → ∀ w, St w0 O m w → Calls P f args.toArray w (Is w v)
/-- The call hands back V i for some i with Φ i, and leaves M i held. -/
class CallR (P : Program) (w0 : World) (O : List Nat) (m : List As) (f : FuncId) (args : List Value) (side : outParam Prop) {ι : outParam Type} (Φ : outParam (ι → Prop)) (V : outParam (ι → Value)) (M : outParam (ι → List As)) : Prop where
  call : side → ∀ w, St w0 O m w → Calls P f args.toArray w (fun e w' => ∃ i, Φ i ∧ e = .returned (V i) ∧ St w0 O (M i) w')

section
variable {ro : Option Nat} {P : Program} {N : Nat} {D : List Deferred} {w0 : World} {O : List Nat} {ops : Array Oper} {l : List Oper} {s : List (Nat × Value)} {m : List As} {Q : Exit → Act → World → Prop}
variable {d : Nat} {ty : TypeId} {pos : String} {af : Array Edge}

/-- a contract that makes new memory alone -/
theorem CallR.new {f : FuncId} {args : List Value} {side : Prop} {ι : Type} {Φ : ι → Prop} {V : ι → Value} {M : ι → List As} (h : side → ∀ w, St w0 O m w → Calls P f args.toArray w (Ret w [] Φ V M)) :
    CallR P w0 O m f args side Φ V (fun i => M i ++ m) := ⟨fun hs w hw => (h hs w hw).mono (by
  rintro e w' ⟨i, hi, he, hst⟩
  exact ⟨i, hi, he, hw.grow hst⟩)⟩

theorem CallR.new1 {f : FuncId} {args : List Value} {side : Prop} {ι : Type} {Φ : ι → Prop} {V : ι → Value} {M : ι → As} (h : side → ∀ w, St w0 O m w → Calls P f args.toArray w (Ret w [] Φ V (fun i => [M i]))) :
    CallR P w0 O m f args side Φ V (fun i => M i :: m) := .new (M := fun i => [M i]) h

theorem G_callAny {f : FuncId} {args : Array Operand} {at_ : Array TypeId} {x : Operand} {first cap vals r1 all : List Value} {ι : Type} {Φ : ι → Prop} {V : ι → Value} {M : ι → List As}
    [he : En P f] (hf : ev s x = some (.func (.func f) first.toArray cap.toArray)) (ha : evs s args.toList = some vals) (hN : Nat.blt d N = true) (e1 : first ++ vals = r1) (e2 : r1 ++ cap = all)
    (hc : ∀ w, St w0 O m w → Calls P f all.toArray w (fun e w' => ∃ i, Φ i ∧ e = .returned (V i) ∧ St w0 O (M i) w'))
    (k : ∀ i, Φ i → G ro P N D w0 O ops l ((d, V i) :: s) (M i) Q) :
    G ro P N D w0 O ops (⟨some d, .call ⟨.value x, args, at_⟩, ty, pos, af, none⟩ :: l) s m Q := fun a w hs hdf hm => by
  subst e1 e2
  have h1 : args.map a.eval = vals.toArray := by rw [← evs_map hs ha]; apply Array.ext'; simp
  simp only [wpL, Region.wanted, if_true]
  refine ⟨fun _ _ => trivial, ?_⟩
  rw [Oper.semAt_eq _ _ _ (by simp)]
  have hrun : (execOp a.eval ⟨some d, .call ⟨.value x, args, at_⟩, ty, pos, af, none⟩).run P w = .ok (.enter f (first ++ vals ++ cap).toArray) w := by
    have h2 := he.run (first ++ vals ++ cap).toArray w
    have e3 : first.toArray ++ vals.toArray ++ cap.toArray = (first ++ vals ++ cap).toArray := by simp
    simp only [execOp, resolve, hs.ev hf, Deferred.ofValue, h1, Sem.run_bind, Sem.run_pure, Result.andThen, invoke, e3, h2]
  rw [hrun, Oper.uponIn_enter]
  refine ⟨fun h => by simp [FW] at h, callsFW ((hc w hm).mono ?_)⟩
  rintro e w' ⟨i, hi, rfl, hst⟩
  exact k i hi _ _ (hs.put d (V i) hN) (by simpa [Act.put] using hdf) hst

theorem G_callV {f : FuncId} {args : Array Operand} {at_ : Array TypeId} {x : Operand} {first cap vals r1 all : List Value} {v : Value} {side : Prop}
    [he : En P f] (hf : ev s x = some (.func (.func f) first.toArray cap.toArray)) (ha : evs s args.toList = some vals) (hN : Nat.blt d N = true) [e1 : AppL first vals r1] [e2 : AppL r1 cap all]
    [hc : CallV P w0 O m f all side v] (k : G ro P N D w0 O ops l ((d, v) :: s) m Q) (hs : side := by first | exact trivial | omega | (simp only [true_and, and_true, and_self]; omega) | exact ⟨trivial, rfl⟩ | exact ⟨rfl, rfl, by decide⟩ | rfl | (simp only [true_and, and_true, and_self]; done) | decide | assumption | exact ⟨by assumption, by omega⟩ | exact ⟨by assumption, by assumption⟩ | exact ⟨by assumption, by assumption, by omega⟩) :
    G ro P N D w0 O ops (⟨some d, .call ⟨.value x, args, at_⟩, ty, pos, af, none⟩ :: l) s m Q :=
  G_callAny (ι := Unit) (Φ := fun _ => True) (V := fun _ => v) (M := fun _ => m) hf ha hN e1.eq e2.eq (fun w hw => (hc.call hs w hw).mono (by
    rintro e w' ⟨rfl, h⟩
    exact ⟨(), trivial, rfl, hw.grow h⟩)) (fun _ _ => k)

theorem G_callR {f : FuncId} {args : Array Operand} {at_ : Array TypeId} {x : Operand} {first cap vals r1 all : List Value} {side : Prop} {ι : Type} {Φ : ι → Prop} {V : ι → Value} {M : ι → List As}
    [he : En P f] (hf : ev s x = some (.func (.func f) first.toArray cap.toArray)) (ha : evs s args.toList = some vals) (hN : Nat.blt d N = true) [e1 : AppL first vals r1] [e2 : AppL r1 cap all]
    [hc : CallR P w0 O m f all side Φ V M] (k : ∀ i, Φ i → G ro P N D w0 O ops l ((d, V i) :: s) (M i) Q) (hs : side := by first | exact trivial | omega | (simp only [true_and, and_true, and_self]; omega) | exact ⟨trivial, rfl⟩ | exact ⟨rfl, rfl, by decide⟩ | rfl | (simp only [true_and, and_true, and_self]; done) | decide | assumption | exact ⟨by assumption, by omega⟩ | exact ⟨by assumption, by assumption⟩ | exact ⟨by assumption, by assumption, by omega⟩) :
    G ro P N D w0 O ops (⟨some d, .call ⟨.value x, args, at_⟩, ty, pos, af, none⟩ :: l) s m Q :=
  G_callAny hf ha hN e1.eq e2.eq (hc.call hs) k

/-! ### Slices without spare room -/
def clipV : Value → Value
  | .slice A n c => .slice A n n
  | v => v
instance rdR_clip {α : Type} [Elt α] {v : Value} {xs : List α} [h : RdR w0 O m v xs] : RdR w0 O m (clipV v) xs := ⟨fun w hw => by
  obtain ⟨A, n, c, rfl, h1, h2, h3, h4⟩ := h.rd w hw
  exact ⟨A, n, n, rfl, h1, Nat.le_refl _, by omega, h4⟩⟩
theorem clip_form {α : Type} [Elt α] {w : World} {v : Value} {xs : List α} (h : RdL w v xs) : ∃ A, clipV v = .slice A xs.length xs.length := by
  obtain ⟨A, c, rfl, _⟩ := h.form
  exact ⟨A, rfl⟩
/-- append onto such a slice: a new row -/
theorem G_appFull {α : Type} [Elt α] [hsc : Scal α] {t e : TypeId} {z : Value} {bs : Nat} {x y : Operand} {v u : Value} {xs ys r : List α} [ht : Und P t (.slice e)] [hL : Lay P e α] [hR : Rw P e [z] bs] (hx : ev s x = some (clipV v)) (hy : ev s y = some u) (hN : Nat.blt d N = true)
    [h : RdR w0 O m v xs] [hu : RdR w0 O m u ys] [hn : AppN xs ys r] (kk : ∀ v', G ro P N D w0 O ops l ((d, v') :: s) (row v' e r :: m) Q) (h0 : 0 < ys.length := by first | omega | (simp only [List.length_append, List.length_cons, List.length_nil, List.length_map, List.length_take, List.length_drop, List.length_replicate, List.length_set, List.length_reverse]; omega)) (hb : (xs.length + ys.length) * bs ≤ 140737488355328 := by first | omega | (simp only [List.length_append, List.length_cons, List.length_nil, List.length_map, List.length_take, List.length_drop, List.length_replicate, List.length_set, List.length_reverse]; omega)) :
    G ro P N D w0 O ops (⟨some d, .call ⟨.builtin .append, #[x, y], #[t, t]⟩, ty, pos, af, none⟩ :: l) s m Q := fun a w hs hd hw => by
  have hc : RdR w0 O m (clipV v) xs := inferInstance
  obtain ⟨A, e1⟩ := clip_form (h.rd w hw)
  rw [e1] at hx hc
  have hsz := hsc.sz
  have hl : ∀ q : List α, (encs q).length = q.length := fun q => by rw [encs_length, hsz, Nat.mul_one]
  refine G_append_full (xs := encs xs) (ys := encs ys) (k := ys.length) hx hy (fun w' hw' => ?_) (fun w' hw' => ?_) (hl ys) h0 (encs_one ys) hb hN (fun v' => ?_) a w hs hd hw
  · have := hc.rd w' hw'; unfold RdL at this; rwa [hsz] at this
  · have := hu.rd w' hw'; unfold RdL at this; rwa [hsz] at this
  · have e2 : row v' e r = .own v' e 1 (xs.length + ys.length) (encs xs ++ encs ys) := by rw [← hn.eq]; simp [row, hsz]
    rw [← e2]; exact kk v'

/-! ### Loops -/
/-- want is taken out of m -/
class SplitM (m want : List As) (mk : outParam (List As)) : Prop where
  ent : Ent m (want ++ mk)
instance splitM_nil {m : List As} : SplitM m [] m := ⟨Ent.refl m⟩
instance splitM_row {α : Type} [Elt α] {v : Value} {e : TypeId} {l : List α} {m m1 r mk : List As} [h : OwnR v m e l m1] [h' : SplitM m1 r mk] : SplitM m (row v e l :: r) mk := ⟨h.ent.trans (h'.ent.cons _)⟩
instance splitM_box {b : Nat} {o : Obj} {m m1 r mk : List As} [h : BoxR b m o m1] [h' : SplitM m1 r mk] : SplitM m (.box b o :: r) mk := ⟨h.ent.trans (h'.ent.cons _)⟩

def memN (k : Nat) : List Nat → Bool
  | [] => false
  | j :: r => j == k || memN k r
def keysOf : List (Nat × Value) → List Nat
  | [] => []
  | (k, _) :: r => k :: keysOf r
/-- the slots of s that no key of seen covers hold in s' what they hold in s -/
def frame (s' : List (Nat × Value)) : List Nat → List (Nat × Value) → Prop
  | _, [] => True
  | seen, (k, v) :: r => (bif memN k seen then some v else look s' k) = some v ∧ frame s' (k :: seen) r

theorem memN_iff {k : Nat} : ∀ {l : List Nat}, memN k l = true ↔ k ∈ l
  | [] => by simp [memN]
  | j :: r => by
    simp only [memN, Bool.or_eq_true, memN_iff (l := r), List.mem_cons, beq_iff_eq]
    constructor
    · rintro (h | h)
      · exact .inl h.symm
      · exact .inr h
    · rintro (rfl | h)
      · exact .inl rfl
      · exact .inr h
theorem look_app {ex s : List (Nat × Value)} {t : Nat} {v : Value} : look (ex ++ s) t = some v → look ex t = some v ∨ (¬ t ∈ keysOf ex ∧ look s t = some v) := by
  induction ex with
  | nil => intro h; exact .inr ⟨by simp [keysOf], h⟩
  | cons p r ih =>
    obtain ⟨k, u⟩ := p
    intro h
    simp only [List.cons_append, look] at h
    by_cases e : k = t
    · subst e
      left
      simpa [look] using h
    · rw [beq_no e] at h
      rcases ih h with h1 | ⟨h1, h2⟩
      · left; unfold look; rw [beq_no e]; exact h1
      · right; exact ⟨by simp [keysOf, h1]; exact fun h => e h.symm, h2⟩
theorem frame_at {s' : List (Nat × Value)} : ∀ {s : List (Nat × Value)} {seen : List Nat}, frame s' seen s → ∀ t v, ¬ t ∈ seen → look s t = some v → look s' t = some v
  | [], _, _, t, v, _, h => by simp [look] at h
  | (k, u) :: r, seen, hf, t, v, hn, h => by
    unfold look at h
    by_cases e : k = t
    · subst e
      simp only [Nat.beq_refl, cond_true, Option.some.injEq] at h
      subst h
      have h1 := hf.1
      have : memN k seen = false := by
        cases hm : memN k seen with
        | false => rfl
        | true => exact absurd (memN_iff.1 hm) hn
      rw [this] at h1
      exact h1
    · rw [beq_no e] at h
      exact frame_at hf.2 t v (by simp [hn]; exact fun h => e h.symm) h
theorem frame_app {s' s ex : List (Nat × Value)} (h1 : subs s' ex) (h2 : frame s' (keysOf ex) s) : ∀ t v, look (ex ++ s) t = some v → look s' t = some v := fun t v h => by
  rcases look_app h with h | ⟨hn, h⟩
  · exact h1.at_ t v h
  · exact frame_at h2 t v hn h
theorem subs_app {s ex : List (Nat × Value)} (h1 : subs s ex) : ∀ t v, look (ex ++ s) t = some v → look s t = some v := fun t v h => by
  rcases look_app h with h | ⟨_, h⟩
  · exact h1.at_ t v h
  · exact h

theorem GC_loopG {X : Type} {c : Code} (Φ : X → Prop) (S : X → List (Nat × Value)) (M : X → List As) (μ : X → Nat) (x0 : X) (h0 : Φ x0) (hs : ∀ t v, look (S x0) t = some v → look s t = some v) (hm : ∀ w, St w0 O m w → St w0 O (M x0) w)
    (round : ∀ x, Φ x → GC ro P N D w0 O c (S x) (M x) (Round N D w0 O Φ S M μ (μ x) Q)) : GC ro P N D w0 O (.loop c) s m Q := fun a w hs' hd hm' => by
  intro b k cs hro hb hr
  have key : ∀ j x a w, μ x = j → Φ x → Has N (S x) a → a.defers = D → St w0 O (M x) w →
      ∃ e a' w', Q e a' w' ∧ ArrivesIn (Machine.fenced P (FW ro)) P (lone (b.atR a (.code c :: .inLoop c :: k)) cs w) b k cs e a' w' := by
    intro j
    induction j using Nat.strongRecOn with
    | _ j ih =>
      intro x a w hn hx hsx hdx hmx
      obtain ⟨e, a₁, w₁, hq, harr⟩ := round x hx a w hsx hdx hmx b (.inLoop c :: k) cs hro hb hr
      cases e with
      | normal =>
        obtain ⟨x', hx', hlt, hs1, hd1, hm1⟩ := hq
        obtain ⟨e₂, a₂, w₂, hq₂, harr₂⟩ := ih (μ x') (hn ▸ hlt) x' a₁ w₁ rfl hx' hs1 hd1 hm1
        exact ⟨e₂, a₂, w₂, hq₂, .of_steps (StepsIn.trans harr (.one (fenced_calm hb hr rfl) stepR_inLoop)) harr₂⟩
      | exit id => exact ⟨_, a₁, w₁, hq, .pass (x := .inLoop c) rfl (fun _ _ => .inl (by simp)) harr⟩
      | goto l => exact ⟨_, a₁, w₁, hq, .pass (x := .inLoop c) rfl (fun _ _ => .inl (by simp)) harr⟩
      | ret => exact ⟨_, a₁, w₁, hq, .pass (x := .inLoop c) rfl (fun _ _ => .inl (by simp)) harr⟩
      | panic ch => exact ⟨_, a₁, w₁, hq, .pass (x := .inLoop c) rfl (fun _ _ => .inl (by simp)) harr⟩
      | outgrown => exact ⟨_, a₁, w₁, hq, .pass (x := .inLoop c) rfl (fun _ _ => .inl (by simp)) harr⟩
  obtain ⟨e, a', w', hq, harr⟩ := key _ x0 a w rfl h0 ⟨hs'.size, fun t v h => hs'.at_ t v (hs t v h)⟩ hd (hm w hm')
  exact ⟨e, a', w', hq, .of_steps (.one (fenced_calm hb hr rfl) stepR_loop) harr⟩

/-- the post of a loop's round, its parts apart -/
def RoundS (N : Nat) (D : List Deferred) (w0 : World) (O : List Nat) {X : Type} (Φ : X → Prop) (ex : X → List (Nat × Value) → List (Nat × Value)) (s0 : List (Nat × Value)) (mx : X → List As → List As) (mk : List As) (μ : X → Nat) (b : Nat) (Q : Exit → Act → World → Prop) : Exit → Act → World → Prop :=
  Round N D w0 O Φ (fun x => ex x s0) (fun x => mx x mk) μ b Q
theorem At_roundS_exit {X : Type} {Φ : X → Prop} {ex : X → List (Nat × Value) → List (Nat × Value)} {s0 : List (Nat × Value)} {mx : X → List As → List As} {mk : List As} {μ : X → Nat} {b : Nat} {id : Nat} (h : At N D w0 O (.exit id) s m Q) : At N D w0 O (.exit id) s m (RoundS N D w0 O Φ ex s0 mx mk μ b Q) := h
theorem At_roundS_ret {X : Type} {Φ : X → Prop} {ex : X → List (Nat × Value) → List (Nat × Value)} {s0 : List (Nat × Value)} {mx : X → List As → List As} {mk : List As} {μ : X → Nat} {b : Nat} (h : At N D w0 O .ret s m Q) : At N D w0 O .ret s m (RoundS N D w0 O Φ ex s0 mx mk μ b Q) := h

/-- A loop: ex x are the slots that its rounds turn (with what they hold), mx x what they turn of memory; all else stays. -/
theorem GC_loopS {X : Type} {c : Code} {want mk : List As} (Φ : X → Prop) (ex : X → List (Nat × Value) → List (Nat × Value)) (mx : X → List As → List As) (μ : X → Nat) (x0 : X) (h0 : Φ x0) (hs : subs s (ex x0 []))
    (round : ∀ x, Φ x → GC ro P N D w0 O c (ex x s) (mx x mk) (RoundS N D w0 O Φ ex s mx mk μ (μ x) Q)) [hm : SplitM m want mk]
    (hm0 : mx x0 [] = want := by first | ((simp only [List.append_nil, List.nil_append, List.take_zero, List.drop_zero, List.map_nil, List.foldl_nil, List.length_nil, List.reverse_nil, List.flatMap_nil, List.replicate_zero]); exact rfl) | exact rfl)
    (hex : ∀ x r, ex x r = ex x [] ++ r := by exact fun _ _ => rfl) (hmx : ∀ x r, mx x r = mx x [] ++ r := by exact fun _ _ => rfl) : GC ro P N D w0 O (.loop c) s m Q :=
  GC_loopG Φ (fun x => ex x s) (fun x => mx x mk) μ x0 h0 (fun t v h => subs_app hs t v (by rw [← hex]; exact h)) (fun w hw => by rw [hmx, hm0]; exact hm.ent.st hw) round

/-- a round's end -/
theorem At_roundS {X : Type} {s0 : List (Nat × Value)} {want mk : List As} {Φ : X → Prop} {ex : X → List (Nat × Value) → List (Nat × Value)} {mx : X → List As → List As} {μ : X → Nat} {b : Nat} (x' : X) (hx : Φ x') (hlt : μ x' < b) (hs : subs s (ex x' [])) (hf : frame s (keysOf (ex x' [])) s0) [hm : SubM m want] (hw : mx x' mk = want := by exact rfl)
    (hex : ex x' s0 = ex x' [] ++ s0 := by rfl) :
    At N D w0 O .normal s m (RoundS N D w0 O Φ ex s0 mx mk μ b Q) := fun a w hsa hd hma =>
  ⟨x', hx, hlt, ⟨hsa.size, fun t v h => hsa.at_ t v (frame_app hs hf t v (by rw [← hex]; exact h))⟩, hd, by show St w0 O (mx x' mk) w; rw [hw]; exact hm.ent.st hma⟩

/-! ### Ends -/
theorem Ret.mk {ι : Type} {w w' : World} {Φ : ι → Prop} {V : ι → Value} {M : ι → List As} {m : List As} {e : Ending} (i : ι) (hi : Φ i) (he : e = .returned (V i)) (h : St w [] m w') [hm : SubM m (M i)] : Ret w [] Φ V M e w' := ⟨i, hi, he, hm.ent.st h⟩
theorem Is.mk {w w' : World} {v : Value} {m : List As} {e : Ending} (he : e = .returned v) (h : St w [] m w') : Is w v e w' := ⟨he, h.drop (List.nil_sublist _)⟩
end
end Go.Proofs.Ytjdbdjmfimbbkaa
