/- The rules of a range over a function; of the calls of yield; of slice expressions. -/
import Derived.Test.YtjdbdjmfimbbkaaDisp
set_option linter.unusedVariables false
set_option linter.unusedSimpArgs false
namespace Go.Proofs.Ytjdbdjmfimbbkaa
open Go.RowKit

theorem St.putObj {w0 : World} {O : List Nat} {b : Nat} {o o' : Obj} {m m' : List As} {w : World} (hm : Put b o o' m m') (h : St w0 O m w) : St w0 O m' (w.putObj b o') := by
  obtain ⟨m1, m2, rfl, rfl⟩ := hm.form
  have hb : w.heap[b]? = some o := h.ok (.box b o) (by simp)
  exact h.set (grownBy_putObj' w b o') (World.putObj_heap_same (Array.getElem?_eq_some_iff.1 hb).1)

/-- the mark of a loop's block for deferred calls -/
def mkD (dd : Nat) : Deferred := { target := .collected dd, args := #[] }
/-- a loop's record -/
def recd (st : LoopState) (pend : Option Code) (fn : FuncId) (tmps : Array Value) (ps : Array Tmp) (assign body : Code) (dd : Nat) : Obj :=
  .loop { state := st, pending := pend, fn := fn, tmps := tmps, params := ps, assign := assign, body := body, defers := dd }

/-- A call of yield. -/
def Yd (P : Program) (l : Nat) (args : Array Value) (w : World) (R : Ending → World → Prop) : Prop := YieldAt (FW none) 0 P l args w R

/-- yield as a value -/
abbrev yv (l : Nat) : Value := .func (.yield l) #[] #[]

def feet (m : List As) : List Nat := m.flatMap As.foot

section
variable {ro : Option Nat} {P : Program} {N : Nat} {D : List Deferred} {w0 : World} {O : List Nat} {ops : Array Oper} {l : List Oper} {s : List (Nat × Value)} {m : List As} {Q : Exit → Act → World → Prop}
variable {d : Nat} {ty : TypeId} {pos : String} {af : Array Edge}

theorem G_yield {ι : Type} {x : Operand} {args : Array Operand} {at_ : Array TypeId} {vals : List Value} {yl : Nat} {O' : List Nat} {mk mg : List As} {Φ : ι → Prop} {V : ι → Value} {M : ι → List As}
    (hx : ev s x = some (yv yl)) (ha : evs s args.toList = some vals) (hp : List.Perm m (mk ++ mg)) (hO : ∀ b ∈ O', b ∈ mg.flatMap As.foot)
    (hy : ∀ w, St w0 O m w → Yd P yl vals.toArray w (Ret w O' Φ V M)) (hN : Nat.blt d N = true)
    (k : ∀ i, Φ i → G ro P N D w0 O ops l ((d, V i) :: s) (M i ++ mk) Q) :
    G ro P N D w0 O ops (⟨some d, .call ⟨.value x, args, at_⟩, ty, pos, af, none⟩ :: l) s m Q := fun a w hs hdf hm => by
  have h1 : args.map a.eval = vals.toArray := by rw [← evs_map hs ha]; apply Array.ext'; simp
  simp only [wpL, Region.wanted, if_true]
  refine ⟨fun _ _ => trivial, ?_⟩
  rw [Oper.semAt_eq _ _ _ (by simp)]
  obtain ⟨fn, tmps, assign, body, hyr, hR⟩ := hy w hm
  have hrun : (execOp a.eval ⟨some d, .call ⟨.value x, args, at_⟩, ty, pos, af, none⟩).run P w = .ok (.round yl fn tmps assign body) w := by
    have e3 : #[] ++ vals.toArray = vals.toArray := by simp
    simp only [execOp, resolve, hs.ev hx, Deferred.ofValue, h1, Sem.run_bind, Sem.run_pure, Result.andThen, invoke, e3, hyr]
  rw [hrun, Oper.uponIn_round]
  refine ⟨fun h => by simp [FW] at h, ?_⟩
  refine RoundIn.mono (F := FW ro) ⟨trivial, hR.2⟩ ?_
  rintro e w' ⟨i, hi, rfl, hst⟩
  exact k i hi _ _ (hs.put d (V i) hN) (by simpa [Act.put] using hdf) (hm.step hst hp hO)

/-- THE STATEMENT, in a plain frame: the iterator is called in a memory that holds the loop's record and the block for deferred calls beside what is held. -/
theorem GC_range {ι : Type} {g : Operand} {ps : Array Tmp} {assign body : Code} {gf : FuncId} {first cap : List Value} {Φ : ι → Prop} {M2 : ι → List As} {pend : ι → Option Code}
    (hg : ev s g = some (.func (.func gf) first.toArray cap.toArray)) [he : En P gf]
    (hc : ∀ fn tmps dd ll w1, Has N s ⟨tmps, D⟩ → St w0 O (.box ll (recd .ready none fn tmps ps assign body dd) :: .box dd (.deferred (some [])) :: m) w1 →
      Calls P gf (first ++ [yv ll] ++ cap).toArray w1 (fun e w2 => ∃ i st, Φ i ∧ st ≠ .busy ∧ (∃ v, e = .returned v) ∧
        St w0 O (.box ll (recd st (pend i) fn tmps ps assign body dd) :: .box dd (.deferred (some [])) :: M2 i) w2))
    (k : ∀ dd i, Φ i → pend i = none → At N (mkD dd :: D) w0 O .normal s (.box dd (.deferred (some [])) :: M2 i) Q)
    (kx : ∀ dd i c, Φ i → pend i = some c → GC none P N (mkD dd :: D) w0 O c s (.box dd (.deferred (some [])) :: M2 i) Q) :
    GC none P N D w0 O (.rangeFunc g ps assign body) s m Q := fun a w hs hd hm => by
  refine wpIn_rangeFunc (F := FW none) (n := 0) fun fn _ => ?_
  have h1 := hm.alloc (.deferred (some []))
  have h2 := h1.alloc (recd .ready none fn a.tmps ps assign body w.heap.size)
  have hll : (w.alloc (.deferred (some []))).heap.size = w.heap.size + 1 := by simp
  rw [hll] at h2
  refine ⟨w.heap.size + 1, [mkD w.heap.size], (w.alloc (.deferred (some []))).alloc (recd .ready none fn a.tmps ps assign body w.heap.size), ⟨.fn (.func gf) cap.toArray, (first ++ [yv (w.heap.size + 1)]).toArray⟩, (w.alloc (.deferred (some []))).alloc (recd .ready none fn a.tmps ps assign body w.heap.size), gf, (first ++ [yv (w.heap.size + 1)] ++ cap).toArray, (w.alloc (.deferred (some []))).alloc (recd .ready none fn a.tmps ps assign body w.heap.size), ?_, ?_, ?_, ?_, ?_, ?_⟩
  · exact run_enterLoop_outer _ _ _ _ _
  · have e1 : (rangeCall g (w.heap.size + 1)).args.map a.eval = #[yv (w.heap.size + 1)] := by
      apply Array.ext'; simp [rangeCall, Act.eval]
    simp only [resolve, e1]
    simp only [hs.ev hg, Deferred.ofValue, Sem.run_pure]
    simp
  · intro f' _; trivial
  · have e3 : (first ++ [yv (w.heap.size + 1)]).toArray ++ cap.toArray = (first ++ [yv (w.heap.size + 1)] ++ cap).toArray := by simp
    simp only [invoke, e3]
    exact he.run _ _
  · intro h; simp [FW] at h
  · refine callsFW ((hc fn a.tmps w.heap.size (w.heap.size + 1) _ ⟨hs.size, hs.at_⟩ h2).mono ?_)
    rintro e w2 ⟨i, st, hi, hst, ⟨v, rfl⟩, hm2⟩
    have hr : w2.heap[w.heap.size + 1]? = some (recd st (pend i) fn a.tmps ps assign body w.heap.size) := hm2.ok (.box _ _) (List.Mem.head _)
    have hend := run_endLoop (P := P) hr hst
    refine ⟨pend i, _, hend, ?_⟩
    have hm3 := St.putObj (o' := .loop { state := .exhausted, pending := pend i, fn := fn, tmps := a.tmps, params := ps, assign := assign, body := body, defers := w.heap.size }) Put.here hm2
    have hm4 := hm3.drop (m' := .box w.heap.size (.deferred (some [])) :: M2 i) (.cons _ (.refl _))
    have hd' : ([mkD w.heap.size] ++ a.defers) = mkD w.heap.size :: D := by rw [hd]; rfl
    cases hp : pend i with
    | none =>
      rw [hp] at hm4
      exact k w.heap.size i hi hp { a with defers := [mkD w.heap.size] ++ a.defers } _ ⟨hs.size, hs.at_⟩ hd' hm4
    | some c =>
      rw [hp] at hm4
      exact kx w.heap.size i c hi hp { a with defers := [mkD w.heap.size] ++ a.defers } _ ⟨hs.size, hs.at_⟩ hd' hm4

/-- .. within a round of another loop: no block for deferred calls is laid -/
theorem GC_range_in {ι : Type} {l0 : Nat} {r0 : Loop} {g : Operand} {ps : Array Tmp} {assign body : Code} {gf : FuncId} {first cap : List Value} {Φ : ι → Prop} {M2 : ι → List As} {pend : ι → Option Code}
    (hl0 : As.box l0 (.loop r0) ∈ m) (hg : ev s g = some (.func (.func gf) first.toArray cap.toArray)) [he : En P gf]
    (hc : ∀ fn tmps ll w1, Has N s ⟨tmps, D⟩ → St w0 O (.box ll (recd .ready none fn tmps ps assign body r0.defers) :: m) w1 →
      Calls P gf (first ++ [yv ll] ++ cap).toArray w1 (fun e w2 => ∃ i st, Φ i ∧ st ≠ .busy ∧ (∃ v, e = .returned v) ∧
        St w0 O (.box ll (recd st (pend i) fn tmps ps assign body r0.defers) :: M2 i) w2))
    (k : ∀ i, Φ i → pend i = none → At N D w0 O .normal s (M2 i) Q)
    (kx : ∀ i c, Φ i → pend i = some c → GC (some l0) P N D w0 O c s (M2 i) Q) :
    GC (some l0) P N D w0 O (.rangeFunc g ps assign body) s m Q := fun a w hs hd hm => by
  refine wpIn_rangeFunc (F := FW (some l0)) (n := 0) fun fn _ => ?_
  have h2 := hm.alloc (recd .ready none fn a.tmps ps assign body r0.defers)
  have hr0 : w.heap[l0]? = some (.loop r0) := hm.ok (.box _ _) hl0
  refine ⟨w.heap.size, [], w.alloc (recd .ready none fn a.tmps ps assign body r0.defers), ⟨.fn (.func gf) cap.toArray, (first ++ [yv w.heap.size]).toArray⟩, w.alloc (recd .ready none fn a.tmps ps assign body r0.defers), gf, (first ++ [yv w.heap.size] ++ cap).toArray, w.alloc (recd .ready none fn a.tmps ps assign body r0.defers), ?_, ?_, ?_, ?_, ?_, ?_⟩
  · exact run_enterLoop_inner hr0 _ _ _ _ _
  · have e1 : (rangeCall g w.heap.size).args.map a.eval = #[yv w.heap.size] := by
      apply Array.ext'; simp [rangeCall, Act.eval]
    simp only [resolve, e1]
    simp only [hs.ev hg, Deferred.ofValue, Sem.run_pure]
    simp
  · intro f' _; trivial
  · have e3 : (first ++ [yv w.heap.size]).toArray ++ cap.toArray = (first ++ [yv w.heap.size] ++ cap).toArray := by simp
    simp only [invoke, e3]
    exact he.run _ _
  · intro h; simp [FW] at h
  · refine callsFW ((hc fn a.tmps w.heap.size _ ⟨hs.size, hs.at_⟩ h2).mono ?_)
    rintro e w2 ⟨i, st, hi, hst, ⟨v, rfl⟩, hm2⟩
    have hr : w2.heap[w.heap.size]? = some (recd st (pend i) fn a.tmps ps assign body r0.defers) := hm2.ok (.box _ _) (List.Mem.head _)
    have hend := run_endLoop (P := P) hr hst
    refine ⟨pend i, _, hend, ?_⟩
    have hm3 := St.putObj (o' := .loop { state := .exhausted, pending := pend i, fn := fn, tmps := a.tmps, params := ps, assign := assign, body := body, defers := r0.defers }) Put.here hm2
    have hm4 := hm3.drop (m' := M2 i) (.cons _ (.refl _))
    cases hp : pend i with
    | none =>
      rw [hp] at hm4
      exact k i hi hp { a with defers := [] ++ a.defers } _ ⟨hs.size, hs.at_⟩ hd hm4
    | some c =>
      rw [hp] at hm4
      exact kx i c hi hp { a with defers := [] ++ a.defers } _ ⟨hs.size, hs.at_⟩ hd hm4

/-! ### A round -/
/-- the post behind the assignment to the loop's variables: the record is set busy, then the body -/
def PA (P : Program) (ll : Nat) (body : Code) (R : Ending → World → Prop) : Exit → Act → World → Prop :=
  Exit.then (fun a₁ w₁ => ∃ w₂, (Instr.beginRound ll).run P w₁ = .ok () w₂ ∧ body.wpIn (FW (some ll)) 0 P (roundPost P ll R) a₁ w₂) (fun _ _ _ => False)

theorem At_begin {ll : Nat} {body : Code} {R : Ending → World → Prop} {fn : FuncId} {tmps : Array Value} {ps : Array Tmp} {as' bo' : Code} {dd : Nat} {m' : List As} (hm : Put ll (recd .ready none fn tmps ps as' bo' dd) (recd .busy none fn tmps ps as' bo' dd) m m')
    (k : GC (some ll) P N D w0 O body s m' (roundPost P ll R)) : At N D w0 O .normal s m (PA P ll body R) := fun a w hs hd hw => by
  have hr : w.heap[ll]? = some (recd .ready none fn tmps ps as' bo' dd) := by
    obtain ⟨m1, m2, rfl, rfl⟩ := hm.form
    exact hw.ok (.box _ _) (by simp)
  exact ⟨_, run_beginRound hr rfl, k a _ hs hd (St.putObj hm hw)⟩

/-- a round's end: off its end, yield hands back true -/
theorem At_end {ll : Nat} {R : Ending → World → Prop} {fn : FuncId} {tmps : Array Value} {ps : Array Tmp} {as' bo' : Code} {dd : Nat} {m' : List As} (hm : Put ll (recd .busy none fn tmps ps as' bo' dd) (recd .ready none fn tmps ps as' bo' dd) m m')
    (k : ∀ w, St w0 O m' w → R (.returned (.bool true)) w) : At N D w0 O .normal s m (roundPost P ll R) := fun a w hs hd hw => by
  have hr : w.heap[ll]? = some (recd .busy none fn tmps ps as' bo' dd) := by
    obtain ⟨m1, m2, rfl, rfl⟩ := hm.form
    exact hw.ok (.box _ _) (by simp)
  exact ⟨_, _, run_endRound none hr, k _ (St.putObj hm hw)⟩
/-- .. left by a jump: yield hands back false -/
theorem At_end_exit {ll id : Nat} {R : Ending → World → Prop} {fn : FuncId} {tmps : Array Value} {ps : Array Tmp} {as' bo' : Code} {dd : Nat} {m' : List As} (hm : Put ll (recd .busy none fn tmps ps as' bo' dd) (recd .done (some (.exit id)) fn tmps ps as' bo' dd) m m')
    (k : ∀ w, St w0 O m' w → R (.returned (.bool false)) w) : At N D w0 O (.exit id) s m (roundPost P ll R) := fun a w hs hd hw => by
  have hr : w.heap[ll]? = some (recd .busy none fn tmps ps as' bo' dd) := by
    obtain ⟨m1, m2, rfl, rfl⟩ := hm.form
    exact hw.ok (.box _ _) (by simp)
  exact ⟨_, _, run_endRound (some (.exit id)) hr, k _ (St.putObj hm hw)⟩
theorem At_end_ret {ll : Nat} {R : Ending → World → Prop} {fn : FuncId} {tmps : Array Value} {ps : Array Tmp} {as' bo' : Code} {dd : Nat} {m' : List As} (hm : Put ll (recd .busy none fn tmps ps as' bo' dd) (recd .done (some .ret) fn tmps ps as' bo' dd) m m')
    (k : ∀ w, St w0 O m' w → R (.returned (.bool false)) w) : At N D w0 O .ret s m (roundPost P ll R) := fun a w hs hd hw => by
  have hr : w.heap[ll]? = some (recd .busy none fn tmps ps as' bo' dd) := by
    obtain ⟨m1, m2, rfl, rfl⟩ := hm.form
    exact hw.ok (.box _ _) (by simp)
  exact ⟨_, _, run_endRound (some .ret) hr, k _ (St.putObj hm hw)⟩

/-- what yield's parameters hold, over the record's slots -/
def upds : List Nat → List Value → List (Nat × Value) → List (Nat × Value)
  | t :: ts, v :: vs, s => upds ts vs ((t, v) :: s)
  | _, _, s => s

theorem Has.upds {N : Nat} : ∀ (ts : List Nat) (vs : List Value) {s : List (Nat × Value)} {tmps : Array Value}, Has N s ⟨tmps, []⟩ → ts.all (fun t => Nat.blt t N) = true →
    Has N (upds ts vs s) ⟨(ts.zip vs).foldl (fun tm p => tm.setIfInBounds p.1 p.2) tmps, []⟩
  | [], _, _, _, h, _ => h
  | _ :: _, [], _, _, h, _ => h
  | t :: ts, v :: vs, s, tmps, h, hb => by
    simp only [List.all_cons, Bool.and_eq_true] at hb
    have := h.put t v hb.1
    exact Has.upds ts vs this hb.2

/-- A CALL OF yield OUT OF THE BODY's WALK; the round's own start is the walk's. -/
theorem yd_of {P : Program} {N : Nat} {s s' : List (Nat × Value)} {ll : Nat} {fn : FuncId} {tmps : Array Value} {ps : List Tmp} {assign body : Code} {dd : Nat} {vals : List Value} {w : World} {R : Ending → World → Prop} {O : List Nat} {m : List As} {D : List Deferred}
    (hst : St w O m w) (hrec : As.box ll (recd .ready none fn tmps ps.toArray assign body dd) ∈ m) (hs : Has N s ⟨tmps, D⟩) (hn : vals.length = ps.length) (hps : ps.all (fun t => Nat.blt t N) = true) (hs' : upds ps vals s = s')
    (k : GC (some ll) P N [] w O assign s' m (PA P ll body R)) : Yd P ll vals.toArray w R := by
  have hr : w.heap[ll]? = some (recd .ready none fn tmps ps.toArray assign body dd) := hst.ok (.box _ _) hrec
  refine ⟨_, _, _, _, run_yield hr (by simp [hn]), ?_⟩
  refine roundIn_of_wpIn (F := FW none) trivial ?_
  subst hs'
  have h1 := Has.upds ps vals (s := s) (tmps := tmps) ⟨hs.size, hs.at_⟩ hps
  refine k _ w ?_ rfl hst
  have e : (ps.toArray.zip vals.toArray).foldl (fun tmps (t, a) => tmps.setIfInBounds t a) tmps = (ps.zip vals).foldl (fun tm p => tm.setIfInBounds p.1 p.2) tmps := by
    rw [← Array.foldl_toList]
    simp
  exact ⟨by rw [← h1.size, e], fun t v hv => by rw [← h1.at_ t v hv]; exact congrArg (fun x => Array.getD x t undef) e⟩

/-! ### The end of a function that holds a range over a function -/
theorem At_mark {fn : Func} {R : Ending → World → Prop} {dd : Nat} {mk : List As} (hT : Take (.box dd (.deferred (some []))) m mk) (h : At N D w0 O .ret s mk (bodyPostM (FW none) 0 P fn R)) :
    At N (mkD dd :: D) w0 O .ret s m (bodyPostM (FW none) 0 P fn R) := fun a w hs hd hm => by
  have hP := hm.perm hT.perm
  have hb : w.heap[dd]? = some (.deferred (some [])) := hP.ok (.box _ _) (by simp)
  have h2 := hP.set (m1 := mk) (m2 := []) (grownBy_putObj' w dd (.deferred none)) (World.putObj_heap_same (o := .deferred none) (Array.getElem?_eq_some_iff.1 hb).1)
  have h3 := h2.drop (m' := mk) (List.sublist_append_left mk _)
  have h4 := h { a with defers := D } _ ⟨hs.size, hs.at_⟩ rfl h3
  show LeavesInM (FW none) 0 P fn a.tmps R a.defers .returning w
  rw [hd]
  exact ⟨by simp, .inl ⟨dd, _, rfl, run_takeDeferred hb, h4⟩⟩
theorem At_mark_n {fn : Func} {R : Ending → World → Prop} {dd : Nat} {mk : List As} (hT : Take (.box dd (.deferred (some []))) m mk) (h : At N D w0 O .normal s mk (bodyPostM (FW none) 0 P fn R)) :
    At N (mkD dd :: D) w0 O .normal s m (bodyPostM (FW none) 0 P fn R) := At_mark hT h

theorem retM_one {fn : Func} {R : Ending → World → Prop} {t : Nat} {v : Value} (hr : fn.results = #[.tmp t]) (hv : look s t = some v) (h : ∀ w, St w0 O m w → R (.returned v) w) :
    At N [] w0 O .ret s m (bodyPostM (FW none) 0 P fn R) := fun a w hs hd hm => by
  show LeavesInM (FW none) 0 P fn a.tmps R a.defers .returning w
  rw [hd]
  exact ⟨_, results_one hr, by rw [hs.at_ t v hv]; exact h w hm⟩
theorem retM_none {fn : Func} {R : Ending → World → Prop} (hr : fn.results = #[]) (h : ∀ w, St w0 O m w → R (.returned (.tuple #[])) w) :
    At N [] w0 O .ret s m (bodyPostM (FW none) 0 P fn R) := fun a w hs hd hm => by
  show LeavesInM (FW none) 0 P fn a.tmps R a.defers .returning w
  rw [hd]
  exact ⟨.tuple #[], by simp [results, hr], h w hm⟩
theorem retM_two {fn : Func} {R : Ending → World → Prop} {t u : Nat} {v v' : Value} (hr : fn.results = #[.tmp t, .tmp u]) (hv : look s t = some v) (hv' : look s u = some v') (h : ∀ w, St w0 O m w → R (.returned (.tuple #[v, v'])) w) :
    At N [] w0 O .ret s m (bodyPostM (FW none) 0 P fn R) := fun a w hs hd hm => by
  show LeavesInM (FW none) 0 P fn a.tmps R a.defers .returning w
  rw [hd]
  exact ⟨.tuple #[v, v'], by rw [← hs.at_ t v hv, ← hs.at_ u v' hv']; simp [results, hr], h w hm⟩

theorem enterM {P : Program} {f : FuncId} {fn : Func} {c : Code} {args : List Value} {w : World} {R : Ending → World → Prop} {N : Nat} {s : List (Nat × Value)} {O : List Nat} {m : List As}
    (hf : P.funcs[f]? = some fn) (hb : fn.body = some c) (hN : args.length + (fn.ntmps - args.length) = N) (hs : slots args 0 = s) (hst : St w O m w)
    (h : GC none P N [] w O c s m (bodyPostM (FW none) 0 P fn R)) : Calls P f args.toArray w R :=
  callsFW' (callsIn_of_wp_marks hf hb trivial (h _ w (by
    subst hs
    refine ⟨by simp [hN], fun t v hv => ?_⟩
    obtain ⟨_, h2⟩ := slots_at _ _ _ _ hv
    have hlt : t < args.length := (List.getElem?_eq_some_iff.1 h2).1
    simp only [Nat.sub_zero] at h2
    have h3 : args[t] = v := by simpa [List.getElem?_eq_getElem hlt] using h2
    simp [Array.getD_eq_getD_getElem?, Array.getElem?_append_left, hlt, h3]) rfl hst))

end
end Go.Proofs.Ytjdbdjmfimbbkaa
