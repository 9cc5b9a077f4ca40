/- The judgement on code, and its rules: control. -/
import Derived.Test.YtjdbdjmfimbbkaaBase
set_option linter.unusedVariables false
set_option linter.unusedSimpArgs false
namespace Go.Proofs.Ytjdbdjmfimbbkaa
open Go.RowKit

def FW (ro : Option Nat) : Fence := { fn := fun _ => True, depth := none, alive := false, round := ro }

theorem callsFW {ro : Option Nat} {P : Program} {f : FuncId} {args : Array Value} {w : World} {R : Ending → World → Prop} (h : Calls P f args w R) : CallsIn (FW ro) 0 P f args w R :=
  (callsIn_wide (n := 0)).2 h
theorem callsFW' {P : Program} {f : FuncId} {args : Array Value} {w : World} {R : Ending → World → Prop} (h : CallsIn (FW none) 0 P f args w R) : Calls P f args w R :=
  (callsIn_wide (n := 0)).1 h

/-- The operations of a region in their order, as a list. -/
def wpL (ro : Option Nat) (P : Program) (ops : Array Oper) (Q : Exit → Act → World → Prop) : List Oper → Act → World → Prop
  | [], a, w => Q .normal a w
  | o :: r, a, w =>
    if Region.wanted o (yielded ops a.tmps) then o.wpIn (FW ro) 0 P a w (wpL ro P ops Q r) Q
    else wpL ro P ops Q r (a.put o.dst undef) w

theorem wpL_ops {ro : Option Nat} {P : Program} {ops : Array Oper} {Q : Exit → Act → World → Prop} : ∀ (k i : Nat), i + k = ops.size → ∀ (a : Act) (w : World),
    wpL ro P ops Q (ops.toList.drop i) a w → wpOpsIn (FW ro) 0 P ops Q (List.range' i k) a w
  | 0, i, hi, a, w, h => by
    rw [List.drop_eq_nil_of_le (by simp; omega)] at h
    exact h
  | k + 1, i, hi, a, w, h => by
    have hlt : i < ops.toList.length := by simp; omega
    rw [List.drop_eq_getElem_cons hlt] at h
    simp only [List.range'_succ, wpOpsIn]
    have he : ops[i]? = some ops.toList[i] := by simp at hlt; simp [hlt]
    simp only [he]
    simp only [wpL] at h
    have ih := wpL_ops (ro := ro) (P := P) (Q := Q) (ops := ops) k (i + 1) (by omega)
    split
    · rename_i hw
      rw [if_pos hw] at h
      refine ⟨h.1, ?_⟩
      have h2 := h.2
      revert h2
      generalize (Oper.semAt (FW ro).round a.eval ops.toList[i]).run P w = r
      intro h2
      cases r with
      | halt x w' => cases x <;> exact h2
      | ok n w' =>
        cases n <;> first
          | exact ih _ _ h2
          | (refine ⟨h2.1, ?_⟩; refine CallsIn.mono h2.2 ?_; intro e w'' hh; cases e <;> first | exact ih _ _ hh | exact hh)
          | (refine ⟨h2.1, ?_⟩; refine RowsIn.mono h2.2 ?_; intro e w'' hh; exact ih _ _ hh)
          | (refine ⟨h2.1, ?_⟩; refine RoundIn.mono h2.2 ?_; intro e w'' hh; cases e <;> first | exact ih _ _ hh | exact hh)
          | exact h2
    · rename_i hw
      rw [if_neg hw] at h
      exact ⟨fun _ _ => trivial, ih _ _ h⟩

/-! ### The judgements -/
def G (ro : Option Nat) (P : Program) (N : Nat) (D : List Deferred) (w0 : World) (O : List Nat) (ops : Array Oper) (l : List Oper) (s : List (Nat × Value)) (m : List As) (Q : Exit → Act → World → Prop) : Prop :=
  ∀ a w, Has N s a → a.defers = D → St w0 O m w → wpL ro P ops Q l a w

def GC (ro : Option Nat) (P : Program) (N : Nat) (D : List Deferred) (w0 : World) (O : List Nat) (c : Code) (s : List (Nat × Value)) (m : List As) (Q : Exit → Act → World → Prop) : Prop :=
  ∀ a w, Has N s a → a.defers = D → St w0 O m w → c.wpIn (FW ro) 0 P Q a w

def At (N : Nat) (D : List Deferred) (w0 : World) (O : List Nat) (e : Exit) (s : List (Nat × Value)) (m : List As) (Q : Exit → Act → World → Prop) : Prop :=
  ∀ a w, Has N s a → a.defers = D → St w0 O m w → Q e a w

/-- a region's operations, under a name -/
structure OpsEq (ops : Array Oper) (l : List Oper) : Prop where
  eq : ops = l.toArray

/-- What follows: y, then Q. -/
def Th (ro : Option Nat) (P : Program) (y : Code) (Q : Exit → Act → World → Prop) : Exit → Act → World → Prop := Exit.then (y.wpIn (FW ro) 0 P Q) Q

section
variable {ro : Option Nat} {P : Program} {N : Nat} {D : List Deferred} {w0 : World} {O : List Nat} {s : List (Nat × Value)} {m : List As} {Q : Exit → Act → World → Prop}

theorem GC_seq {x y : Code} (h : GC ro P N D w0 O x s m (Th ro P y Q)) : GC ro P N D w0 O (.seq x y) s m Q := fun a w hs hd hm => wpIn_seq (h a w hs hd hm)
theorem GC_region {id : Nat} {l : List Oper} (h0 : ∀ ops, OpsEq ops l → G ro P N D w0 O ops l s m Q) : GC ro P N D w0 O (.region id l.toArray false) s m Q := fun a w hs hd hm =>
  have h := h0 l.toArray ⟨rfl⟩
  wpIn_region (by
    have := wpL_ops (ro := ro) (P := P) (Q := Q) (ops := l.toArray) l.toArray.size 0 (by simp) a w (by simpa using h a w hs hd hm)
    rwa [List.range_eq_range'])
theorem G_nil {ops : Array Oper} (h : At N D w0 O .normal s m Q) : G ro P N D w0 O ops [] s m Q := fun a w hs hd hm => h a w hs hd hm
theorem GC_skip (h : At N D w0 O .normal s m Q) : GC ro P N D w0 O .skip s m Q := fun a w hs hd hm => wpIn_skip (h a w hs hd hm)
theorem GC_exit {id : Nat} (h : At N D w0 O (.exit id) s m Q) : GC ro P N D w0 O (.exit id) s m Q := fun a w hs hd hm => wpIn_exit (h a w hs hd hm)
theorem GC_ret (h : At N D w0 O .ret s m Q) : GC ro P N D w0 O .ret s m Q := fun a w hs hd hm => wpIn_ret (h a w hs hd hm)
theorem GC_block {id : Nat} {c : Code} (h : GC ro P N D w0 O c s m (Exit.inBlock id Q)) : GC ro P N D w0 O (.block id c) s m Q := fun a w hs hd hm => wpIn_block (h a w hs hd hm)
theorem At_then {y : Code} (h : GC ro P N D w0 O y s m Q) : At N D w0 O .normal s m (Th ro P y Q) := h
theorem At_then_exit {y : Code} {id : Nat} (h : At N D w0 O (.exit id) s m Q) : At N D w0 O (.exit id) s m (Th ro P y Q) := h
theorem At_then_ret {y : Code} (h : At N D w0 O .ret s m Q) : At N D w0 O .ret s m (Th ro P y Q) := h
theorem At_block {id : Nat} (h : At N D w0 O .normal s m Q) : At N D w0 O .normal s m (Exit.inBlock id Q) := h
theorem At_block_ret {id : Nat} (h : At N D w0 O .ret s m Q) : At N D w0 O .ret s m (Exit.inBlock id Q) := h
theorem At_block_hit {id : Nat} (h : At N D w0 O .normal s m Q) : At N D w0 O (.exit id) s m (Exit.inBlock id Q) := fun a w hs hd hm => by
  simp only [Exit.inBlock, if_true]; exact h a w hs hd hm
theorem At_block_miss {id id' : Nat} (hne : Nat.beq id' id = false) (h : At N D w0 O (.exit id') s m Q) : At N D w0 O (.exit id') s m (Exit.inBlock id Q) := fun a w hs hd hm => by
  have : ¬ id' = id := fun e => by rw [e, Nat.beq_refl] at hne; cases hne
  simp only [Exit.inBlock, if_neg this]; exact h a w hs hd hm
theorem GC_cond {c : Operand} {x y : Code} {t : Bool} (hc : ev s c = some (.bool t)) (ht : t = true → GC ro P N D w0 O x s m Q) (hf : t = false → GC ro P N D w0 O y s m Q) :
    GC ro P N D w0 O (.cond c x y) s m Q := fun a w hs hd hm =>
  wpIn_cond_split (hs.ev hc) (fun e => ht e a w hs hd hm) (fun e => hf e a w hs hd hm)
theorem GC_cond_t {c : Operand} {x y : Code} (hc : ev s c = some (.bool true)) (h : GC ro P N D w0 O x s m Q) : GC ro P N D w0 O (.cond c x y) s m Q := fun a w hs hd hm =>
  wpIn_cond_true (hs.ev hc) (h a w hs hd hm)
theorem GC_cond_f {c : Operand} {x y : Code} (hc : ev s c = some (.bool false)) (h : GC ro P N D w0 O y s m Q) : GC ro P N D w0 O (.cond c x y) s m Q := fun a w hs hd hm =>
  wpIn_cond_false (hs.ev hc) (h a w hs hd hm)
theorem GC_cond_dec {c : Operand} {x y : Code} {p : Prop} [Decidable p] (hc : ev s c = some (.bool (decide p))) (ht : p → GC ro P N D w0 O x s m Q) (hf : ¬ p → GC ro P N D w0 O y s m Q) :
    GC ro P N D w0 O (.cond c x y) s m Q :=
  GC_cond hc (fun e => ht (of_decide_eq_true e)) (fun e => hf (of_decide_eq_false e))

/-- Fewer slots, less of memory. -/
theorem GC_sub {c : Code} {s' : List (Nat × Value)} {m' : List As} (hs : subs s s') (hm : List.Sublist m' m) (h : GC ro P N D w0 O c s' m' Q) : GC ro P N D w0 O c s m Q :=
  fun a w hs' hd hm' => h a w (hs'.sub hs.at_) hd (hm'.drop hm)

/-- A loop whose rounds are told by a family x : what the slots hold, what memory holds. -/
theorem GC_loop {X : Type} {c : Code} (Φ : X → Prop) (S : X → List (Nat × Value)) (M : X → List As) (μ : X → Nat) (x0 : X) (h0 : Φ x0) (hs : subs s (S x0)) (hm : ∀ w, St w0 O m w → St w0 O (M x0) w)
    (round : ∀ x, Φ x → GC ro P N D w0 O c (S x) (M x) (Exit.then (fun a w => ∃ x', Φ x' ∧ μ x' < μ x ∧ Has N (S x') a ∧ a.defers = D ∧ St w0 O (M x') w) Q)) :
    GC ro P N D w0 O (.loop c) s m Q := fun a w hs' hd hm' => by
  intro b k cs hro hb hr
  have key : ∀ j x a w, μ x = j → Φ x → Has N (S x) a → a.defers = D → St w0 O (M x) w →
      ∃ e a' w', Q e a' w' ∧ ArrivesIn (Machine.fenced P (FW ro)) P (lone (b.atR a (.code c :: .inLoop c :: k)) cs w) b k cs e a' w' := by
    intro j
    induction j using Nat.strongRecOn with
    | _ j ih =>
      intro x a w hn hx hsx hdx hmx
      obtain ⟨e, a₁, w₁, hq, harr⟩ := round x hx a w hsx hdx hmx b (.inLoop c :: k) cs hro hb hr
      cases e with
      | normal =>
        obtain ⟨x', hx', hlt, hs1, hd1, hm1⟩ := hq
        obtain ⟨e₂, a₂, w₂, hq₂, harr₂⟩ := ih (μ x') (hn ▸ hlt) x' a₁ w₁ rfl hx' hs1 hd1 hm1
        exact ⟨e₂, a₂, w₂, hq₂, .of_steps (StepsIn.trans harr (.one (fenced_calm hb hr rfl) stepR_inLoop)) harr₂⟩
      | exit id => exact ⟨_, a₁, w₁, hq, .pass (x := .inLoop c) rfl (fun _ _ => .inl (by simp)) harr⟩
      | goto l => exact ⟨_, a₁, w₁, hq, .pass (x := .inLoop c) rfl (fun _ _ => .inl (by simp)) harr⟩
      | ret => exact ⟨_, a₁, w₁, hq, .pass (x := .inLoop c) rfl (fun _ _ => .inl (by simp)) harr⟩
      | panic ch => exact ⟨_, a₁, w₁, hq, .pass (x := .inLoop c) rfl (fun _ _ => .inl (by simp)) harr⟩
      | outgrown => exact ⟨_, a₁, w₁, hq, .pass (x := .inLoop c) rfl (fun _ _ => .inl (by simp)) harr⟩
  obtain ⟨e, a', w', hq, harr⟩ := key _ x0 a w rfl h0 (hs'.sub hs.at_) hd (hm w hm')
  exact ⟨e, a', w', hq, .of_steps (.one (fenced_calm hb hr rfl) stepR_loop) harr⟩

/-- the post of a loop's round -/
def Round (N : Nat) (D : List Deferred) (w0 : World) (O : List Nat) {X : Type} (Φ : X → Prop) (S : X → List (Nat × Value)) (M : X → List As) (μ : X → Nat) (b : Nat) (Q : Exit → Act → World → Prop) : Exit → Act → World → Prop :=
  Exit.then (fun a w => ∃ x', Φ x' ∧ μ x' < b ∧ Has N (S x') a ∧ a.defers = D ∧ St w0 O (M x') w) Q

theorem At_round {X : Type} {Φ : X → Prop} {S : X → List (Nat × Value)} {M : X → List As} {μ : X → Nat} {b : Nat} (x' : X) (hx : Φ x') (hlt : μ x' < b) (hs : subs s (S x')) (hm : ∀ w, St w0 O m w → St w0 O (M x') w) :
    At N D w0 O .normal s m (Round N D w0 O Φ S M μ b Q) := fun a w hsa hd hma => ⟨x', hx, hlt, hsa.sub hs.at_, hd, hm w hma⟩
theorem At_round_exit {X : Type} {Φ : X → Prop} {S : X → List (Nat × Value)} {M : X → List As} {μ : X → Nat} {b : Nat} {id : Nat} (h : At N D w0 O (.exit id) s m Q) : At N D w0 O (.exit id) s m (Round N D w0 O Φ S M μ b Q) := h
theorem At_round_ret {X : Type} {Φ : X → Prop} {S : X → List (Nat × Value)} {M : X → List As} {μ : X → Nat} {b : Nat} (h : At N D w0 O .ret s m Q) : At N D w0 O .ret s m (Round N D w0 O Φ S M μ b Q) := h

theorem GC_loop' {X : Type} {c : Code} (Φ : X → Prop) (S : X → List (Nat × Value)) (M : X → List As) (μ : X → Nat) (x0 : X) (h0 : Φ x0) (hs : subs s (S x0)) (hm : ∀ w, St w0 O m w → St w0 O (M x0) w)
    (round : ∀ x, Φ x → GC ro P N D w0 O c (S x) (M x) (Round N D w0 O Φ S M μ (μ x) Q)) : GC ro P N D w0 O (.loop c) s m Q :=
  GC_loop Φ S M μ x0 h0 hs hm round

/-! ### The end of a function -/
theorem results_one {fn : Func} {t : Nat} {tmps : Array Value} {w : World} (hr : fn.results = #[.tmp t]) : (results fn tmps).run P w = .ok (tmps.getD t undef) w := by
  simp [results, hr]

theorem ret_one {fn : Func} {R : Ending → World → Prop} {t : Nat} {v : Value} (hr : fn.results = #[.tmp t]) (hv : look s t = some v) (h : ∀ w, St w0 O m w → R (.returned v) w) :
    At N [] w0 O .ret s m (bodyPost P fn R) := fun a w hs hd hm =>
  ⟨hd, _, results_one hr, by rw [hs.at_ t v hv]; exact h w hm⟩
theorem ret_one_n {fn : Func} {R : Ending → World → Prop} {t : Nat} {v : Value} (hr : fn.results = #[.tmp t]) (hv : look s t = some v) (h : ∀ w, St w0 O m w → R (.returned v) w) :
    At N [] w0 O .normal s m (bodyPost P fn R) := fun a w hs hd hm =>
  ⟨hd, _, results_one hr, by rw [hs.at_ t v hv]; exact h w hm⟩
theorem ret_none {fn : Func} {R : Ending → World → Prop} (hr : fn.results = #[]) (h : ∀ w, St w0 O m w → R (.returned (.tuple #[])) w) :
    At N [] w0 O .ret s m (bodyPost P fn R) := fun a w hs hd hm =>
  ⟨hd, .tuple #[], by simp [results, hr], h w hm⟩
theorem ret_none_n {fn : Func} {R : Ending → World → Prop} (hr : fn.results = #[]) (h : ∀ w, St w0 O m w → R (.returned (.tuple #[])) w) :
    At N [] w0 O .normal s m (bodyPost P fn R) := fun a w hs hd hm =>
  ⟨hd, .tuple #[], by simp [results, hr], h w hm⟩
theorem ret_two {fn : Func} {R : Ending → World → Prop} {t u : Nat} {v v' : Value} (hr : fn.results = #[.tmp t, .tmp u]) (hv : look s t = some v) (hv' : look s u = some v') (h : ∀ w, St w0 O m w → R (.returned (.tuple #[v, v'])) w) :
    At N [] w0 O .ret s m (bodyPost P fn R) := fun a w hs hd hm =>
  ⟨hd, .tuple #[v, v'], by rw [← hs.at_ t v hv, ← hs.at_ u v' hv']; simp [results, hr], h w hm⟩
theorem ret_three {fn : Func} {R : Ending → World → Prop} {t u x : Nat} {v v' v'' : Value} (hr : fn.results = #[.tmp t, .tmp u, .tmp x]) (hv : look s t = some v) (hv' : look s u = some v') (hv'' : look s x = some v'') (h : ∀ w, St w0 O m w → R (.returned (.tuple #[v, v', v''])) w) :
    At N [] w0 O .ret s m (bodyPost P fn R) := fun a w hs hd hm =>
  ⟨hd, .tuple #[v, v', v''], by rw [← hs.at_ t v hv, ← hs.at_ u v' hv', ← hs.at_ x v'' hv'']; simp [results, hr], h w hm⟩
end

def slots : List Value → Nat → List (Nat × Value)
  | [], _ => []
  | v :: r, i => (i, v) :: slots r (i + 1)

theorem slots_at : ∀ (l : List Value) (i : Nat) (t : Nat) (v : Value), look (slots l i) t = some v → i ≤ t ∧ l[t - i]? = some v
  | [], i, t, v, h => by simp [slots, look] at h
  | u :: r, i, t, v, h => by
    unfold slots look at h
    by_cases e : i = t
    · subst e
      simp only [Nat.beq_refl, cond_true, Option.some.injEq] at h
      simp [h]
    · rw [beq_no e] at h
      obtain ⟨h1, h2⟩ := slots_at r (i + 1) t v h
      refine ⟨by omega, ?_⟩
      rw [show t - i = (t - (i + 1)) + 1 by omega]
      simpa using h2

/-- Into a function. -/
theorem enter {P : Program} {f : FuncId} {fn : Func} {c : Code} {args : List Value} {w : World} {R : Ending → World → Prop} {N : Nat} {s : List (Nat × Value)} {O : List Nat} {m : List As}
    (hf : P.funcs[f]? = some fn) (hb : fn.body = some c) (hN : args.length + (fn.ntmps - args.length) = N) (hs : slots args 0 = s) (hst : St w O m w)
    (h : GC none P N [] w O c s m (bodyPost P fn R)) : Calls P f args.toArray w R :=
  callsFW' (callsIn_of_wp hf hb trivial (h _ w (by
    subst hs
    refine ⟨by simp [hN], fun t v hv => ?_⟩
    obtain ⟨_, h2⟩ := slots_at _ _ _ _ hv
    have hlt : t < args.length := (List.getElem?_eq_some_iff.1 h2).1
    simp only [Nat.sub_zero] at h2
    have h3 : args[t] = v := by simpa [List.getElem?_eq_getElem hlt] using h2
    simp [Array.getD_eq_getD_getElem?, Array.getElem?_append_left, hlt, h3]) rfl hst))
end Go.Proofs.Ytjdbdjmfimbbkaa
