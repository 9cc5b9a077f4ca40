/- Contracts with a frame: into a function, a range over a function, a round of it, in whatever world the caller has. -/
import Derived.Test.YtjdbdjmfimbbkaaStr
set_option linter.unusedVariables false
set_option linter.unusedSimpArgs false
namespace Go.Proofs.Ytjdbdjmfimbbkaa
open Go.RowKit

theorem has_slots {args : List Value} {N n : Nat} (hN : args.length + (n - args.length) = N) : Has N (slots args 0) ⟨(args.toArray ++ Array.replicate (n - args.length) undef), []⟩ :=
  ⟨by simp [hN], fun t v hv => by
    obtain ⟨_, h2⟩ := slots_at _ _ _ _ hv
    have hlt : t < args.length := (List.getElem?_eq_some_iff.1 h2).1
    simp only [Nat.sub_zero] at h2
    have h3 : args[t] = v := by simpa [List.getElem?_eq_getElem hlt] using h2
    simp [Array.getD_eq_getD_getElem?, Array.getElem?_append_left, hlt, h3]⟩

/-- Into a function. -/
theorem enterF {P : Program} {f : FuncId} {fn : Func} {c : Code} {args : List Value} {w0 w : World} {R : Ending → World → Prop} {N : Nat} {s : List (Nat × Value)} {O : List Nat} {m : List As}
    (hf : P.funcs[f]? = some fn) (hb : fn.body = some c) (hN : args.length + (fn.ntmps - args.length) = N) (hs : slots args 0 = s) (hst : St w0 O m w)
    (h : GC none P N [] w0 O c s m (bodyPost P fn R)) : Calls P f args.toArray w R :=
  callsFW' (callsIn_of_wp hf hb trivial (h _ w (by
    subst hs
    refine ⟨by simp [hN], fun t v hv => ?_⟩
    obtain ⟨_, h2⟩ := slots_at _ _ _ _ hv
    have hlt : t < args.length := (List.getElem?_eq_some_iff.1 h2).1
    simp only [Nat.sub_zero] at h2
    have h3 : args[t] = v := by simpa [List.getElem?_eq_getElem hlt] using h2
    simp [Array.getD_eq_getD_getElem?, Array.getElem?_append_left, hlt, h3]) rfl hst))
/-- .. that holds a range over a function -/
theorem enterMF {P : Program} {f : FuncId} {fn : Func} {c : Code} {args : List Value} {w0 w : World} {R : Ending → World → Prop} {N : Nat} {s : List (Nat × Value)} {O : List Nat} {m : List As}
    (hf : P.funcs[f]? = some fn) (hb : fn.body = some c) (hN : args.length + (fn.ntmps - args.length) = N) (hs : slots args 0 = s) (hst : St w0 O m w)
    (h : GC none P N [] w0 O c s m (bodyPostM (FW none) 0 P fn R)) : Calls P f args.toArray w R :=
  callsFW' (callsIn_of_wp_marks hf hb trivial (h _ w (by
    subst hs
    refine ⟨by simp [hN], fun t v hv => ?_⟩
    obtain ⟨_, h2⟩ := slots_at _ _ _ _ hv
    have hlt : t < args.length := (List.getElem?_eq_some_iff.1 h2).1
    simp only [Nat.sub_zero] at h2
    have h3 : args[t] = v := by simpa [List.getElem?_eq_getElem hlt] using h2
    simp [Array.getD_eq_getD_getElem?, Array.getElem?_append_left, hlt, h3]) rfl hst))

section
variable {ro : Option Nat} {P : Program} {N : Nat} {D : List Deferred} {w0 : World} {O : List Nat} {ops : Array Oper} {l : List Oper} {s : List (Nat × Value)} {m : List As} {Q : Exit → Act → World → Prop}
variable {d : Nat} {ty : TypeId} {pos : String} {af : Array Edge}

/-- what a call of yield does: it hands back b and leaves m' -/
def YdB (P : Program) (yl : Nat) (vals : List Value) (w0 : World) (O : List Nat) (m : List As) (b : Bool) (m' : List As) : Prop :=
  ∀ w, St w0 O m w → Yd P yl vals.toArray w (fun e w' => e = .returned (.bool b) ∧ St w0 O m' w')

/-- a call of yield -/
theorem G_yieldF {x : Operand} {args : Array Operand} {at_ : Array TypeId} {vals : List Value} {yl : Nat} {b : Bool} {m' : List As}
    (hx : ev s x = some (yv yl)) (ha : evs s args.toList = some vals) (hN : Nat.blt d N = true) (hy : YdB P yl vals w0 O m b m')
    (k : G ro P N D w0 O ops l ((d, .bool b) :: s) m' Q) :
    G ro P N D w0 O ops (⟨some d, .call ⟨.value x, args, at_⟩, ty, pos, af, none⟩ :: l) s m Q := fun a w hs hdf hm => by
  have h1 : args.map a.eval = vals.toArray := by rw [← evs_map hs ha]; apply Array.ext'; simp
  simp only [wpL, Region.wanted, if_true]
  refine ⟨fun _ _ => trivial, ?_⟩
  rw [Oper.semAt_eq _ _ _ (by simp)]
  obtain ⟨fn, tmps, assign, body, hyr, hR⟩ := hy w hm
  have hrun : (execOp a.eval ⟨some d, .call ⟨.value x, args, at_⟩, ty, pos, af, none⟩).run P w = .ok (.round yl fn tmps assign body) w := by
    have e3 : #[] ++ vals.toArray = vals.toArray := by simp
    simp only [execOp, resolve, hs.ev hx, Deferred.ofValue, h1, Sem.run_bind, Sem.run_pure, Result.andThen, invoke, e3, hyr]
  rw [hrun, Oper.uponIn_round]
  refine ⟨fun h => by simp [FW] at h, ?_⟩
  refine RoundIn.mono (F := FW ro) ⟨trivial, hR.2⟩ ?_
  rintro e w' ⟨rfl, hst⟩
  exact k _ _ (hs.put d _ hN) (by simpa [Act.put] using hdf) hst

/-- a round of a range over a function, as its iterator sees it -/
theorem yd_F {P : Program} {N : Nat} {s s' : List (Nat × Value)} {ll : Nat} {fn : FuncId} {tmps : Array Value} {ps : List Tmp} {assign body : Code} {dd : Nat} {vals : List Value} {w : World} {R : Ending → World → Prop} {O : List Nat} {m mk : List As} {D : List Deferred}
    (hst : St w0 O m w) [hrec : BoxR ll m (recd .ready none fn tmps ps.toArray assign body dd) mk] (hs : Has N s ⟨tmps, D⟩) (hn : vals.length = ps.length) (hps : ps.all (fun t => Nat.blt t N) = true) (hs' : upds ps vals s = s')
    (k : GC (some ll) P N [] w0 O assign s' m (PA P ll body R)) : Yd P ll vals.toArray w R := by
  have hr : w.heap[ll]? = some (recd .ready none fn tmps ps.toArray assign body dd) := (hrec.ent.st hst).ok (.box _ _) (List.Mem.head _)
  refine ⟨_, _, _, _, run_yield hr (by simp [hn]), ?_⟩
  refine roundIn_of_wpIn (F := FW none) trivial ?_
  subst hs'
  have h1 := Has.upds ps vals (s := s) (tmps := tmps) ⟨hs.size, hs.at_⟩ hps
  refine k _ w ?_ rfl hst
  have e : (ps.toArray.zip vals.toArray).foldl (fun tmps (t, a) => tmps.setIfInBounds t a) tmps = (ps.zip vals).foldl (fun tm p => tm.setIfInBounds p.1 p.2) tmps := by
    rw [← Array.foldl_toList]
    simp
  exact ⟨by rw [← h1.size, e], fun t v hv => by rw [← h1.at_ t v hv]; exact congrArg (fun x => Array.getD x t undef) e⟩

/-- the loop's record is set busy, then the body -/
theorem At_beginF {ll : Nat} {body : Code} {R : Ending → World → Prop} {fn : FuncId} {tmps : Array Value} {ps : Array Tmp} {as' bo' : Code} {dd : Nat} {m' : List As} [hh : Held ll m (recd .ready none fn tmps ps as' bo' dd)] [hm : PutC ll (recd .busy none fn tmps ps as' bo' dd) m m']
    (k : GC (some ll) P N D w0 O body s m' (roundPost P ll R)) : At N D w0 O .normal s m (PA P ll body R) := fun a w hs hd hw => by
  have hr : w.heap[ll]? = some (recd .ready none fn tmps ps as' bo' dd) := hw.ok (.box _ _) hh.mem
  obtain ⟨o, m1, m2, rfl, rfl⟩ := hm.form
  have ho : w.heap[ll]? = some o := hw.ok (.box _ _) (by simp)
  rw [hr] at ho
  cases ho
  refine ⟨_, run_beginRound hr rfl, k a _ hs hd ?_⟩
  exact hw.set (grownBy_putObj' w ll _) (World.putObj_heap_same (o := recd .busy none fn tmps ps as' bo' dd) (Array.getElem?_eq_some_iff.1 hr).1)
/-- a round's end -/
theorem At_endF {ll : Nat} {R : Ending → World → Prop} {fn : FuncId} {tmps : Array Value} {ps : Array Tmp} {as' bo' : Code} {dd : Nat} {m' : List As} [hh : Held ll m (recd .busy none fn tmps ps as' bo' dd)] [hm : PutC ll (recd .ready none fn tmps ps as' bo' dd) m m']
    (k : ∀ w, St w0 O m' w → R (.returned (.bool true)) w) : At N D w0 O .normal s m (roundPost P ll R) := fun a w hs hd hw => by
  have hr : w.heap[ll]? = some (recd .busy none fn tmps ps as' bo' dd) := hw.ok (.box _ _) hh.mem
  obtain ⟨o, m1, m2, rfl, rfl⟩ := hm.form
  have ho : w.heap[ll]? = some o := hw.ok (.box _ _) (by simp)
  rw [hr] at ho
  cases ho
  refine ⟨_, _, run_endRound none hr, k _ ?_⟩
  exact hw.set (grownBy_putObj' w ll _) (World.putObj_heap_same (o := recd .ready none fn tmps ps as' bo' dd) (Array.getElem?_eq_some_iff.1 hr).1)
/-- .. left by a jump, by a return -/
theorem At_endF_exit {ll id : Nat} {R : Ending → World → Prop} {fn : FuncId} {tmps : Array Value} {ps : Array Tmp} {as' bo' : Code} {dd : Nat} {m' : List As} [hh : Held ll m (recd .busy none fn tmps ps as' bo' dd)] [hm : PutC ll (recd .done (some (.exit id)) fn tmps ps as' bo' dd) m m']
    (k : ∀ w, St w0 O m' w → R (.returned (.bool false)) w) : At N D w0 O (.exit id) s m (roundPost P ll R) := fun a w hs hd hw => by
  have hr : w.heap[ll]? = some (recd .busy none fn tmps ps as' bo' dd) := hw.ok (.box _ _) hh.mem
  obtain ⟨o, m1, m2, rfl, rfl⟩ := hm.form
  have ho : w.heap[ll]? = some o := hw.ok (.box _ _) (by simp)
  rw [hr] at ho
  cases ho
  refine ⟨_, _, run_endRound (some (.exit id)) hr, k _ ?_⟩
  exact hw.set (grownBy_putObj' w ll _) (World.putObj_heap_same (o := recd .done (some (.exit id)) fn tmps ps as' bo' dd) (Array.getElem?_eq_some_iff.1 hr).1)
theorem At_endF_ret {ll : Nat} {R : Ending → World → Prop} {fn : FuncId} {tmps : Array Value} {ps : Array Tmp} {as' bo' : Code} {dd : Nat} {m' : List As} [hh : Held ll m (recd .busy none fn tmps ps as' bo' dd)] [hm : PutC ll (recd .done (some .ret) fn tmps ps as' bo' dd) m m']
    (k : ∀ w, St w0 O m' w → R (.returned (.bool false)) w) : At N D w0 O .ret s m (roundPost P ll R) := fun a w hs hd hw => by
  have hr : w.heap[ll]? = some (recd .busy none fn tmps ps as' bo' dd) := hw.ok (.box _ _) hh.mem
  obtain ⟨o, m1, m2, rfl, rfl⟩ := hm.form
  have ho : w.heap[ll]? = some o := hw.ok (.box _ _) (by simp)
  rw [hr] at ho
  cases ho
  refine ⟨_, _, run_endRound (some .ret) hr, k _ ?_⟩
  exact hw.set (grownBy_putObj' w ll _) (World.putObj_heap_same (o := recd .done (some .ret) fn tmps ps as' bo' dd) (Array.getElem?_eq_some_iff.1 hr).1)

/-- A range over a function that runs to its end. -/
theorem GC_rangeF {g : Operand} {ps : Array Tmp} {assign body : Code} {gf : FuncId} {first cap : List Value} (M2 : List As)
    (hg : ev s g = some (.func (.func gf) first.toArray cap.toArray)) [he : En P gf]
    (hc : ∀ fn tmps dd ll w1 rc, rc = recd .ready none fn tmps ps assign body dd → Has N s ⟨tmps, D⟩ → St w0 O (.box ll rc :: .box dd (.deferred (some [])) :: m) w1 →
      Calls P gf (first ++ [yv ll] ++ cap).toArray w1 (fun e w2 => (∃ v, e = .returned v) ∧ St w0 O (.box ll rc :: .box dd (.deferred (some [])) :: M2) w2))
    (k : ∀ dd, At N (mkD dd :: D) w0 O .normal s (.box dd (.deferred (some [])) :: M2) Q) :
    GC none P N D w0 O (.rangeFunc g ps assign body) s m Q :=
  GC_range (ι := Unit) (Φ := fun _ => True) (M2 := fun _ => M2) (pend := fun _ => none) hg
    (fun fn tmps dd ll w1 hs hst => (hc fn tmps dd ll w1 _ rfl hs hst).mono (by
      rintro e w2 ⟨hv, hst2⟩
      exact ⟨(), .ready, trivial, by simp, hv, hst2⟩)) (fun dd _ _ _ => k dd) (fun dd _ c _ h => by cases h)

/-- A loop whose memory is told whole. -/
theorem GC_loopM {X : Type} {c : Code} {want : List As} (Φ : X → Prop) (ex : X → List (Nat × Value) → List (Nat × Value)) (M : X → List As) (μ : X → Nat) (x0 : X) (h0 : Φ x0) (hs : subs s (ex x0 []))
    (round : ∀ x, Φ x → GC ro P N D w0 O c (ex x s) (M x) (RoundS N D w0 O Φ ex s (fun x _ => M x) [] μ (μ x) Q)) [hm : SubM m want]
    (hm0 : M x0 = want := by exact rfl) (hex : ∀ x r, ex x r = ex x [] ++ r := by exact fun _ _ => rfl) : GC ro P N D w0 O (.loop c) s m Q :=
  GC_loopG Φ (fun x => ex x s) M μ x0 h0 (fun t v h => subs_app hs t v (by rw [← hex]; exact h)) (fun w hw => by rw [hm0]; exact hm.ent.st hw) round

/-- the marks of loops' blocks for deferred calls are taken at a function's end -/
theorem At_markF {e : Exit} {fn : Func} {R : Ending → World → Prop} {dd : Nat} {mk : List As} [hT : BoxR dd m (.deferred (some [])) mk] (he : e = .ret ∨ e = .normal) (h : At N D w0 O .ret s mk (bodyPostM (FW none) 0 P fn R)) :
    At N (mkD dd :: D) w0 O e s m (bodyPostM (FW none) 0 P fn R) := fun a w hs hd hm => by
  have h2 := At_mark (D := D) (N := N) (s := s) (dd := dd) (mk := mk) (m := .box dd (.deferred (some [])) :: mk) Take.here h a w hs hd (hT.ent.st hm)
  rcases he with rfl | rfl <;> exact h2
theorem ret_nM {fn : Func} {R : Ending → World → Prop} {rs : List ResultVar} {vs : List Value} (hr : fn.results = rs.toArray) (hv : ResAll P w0 O m s rs vs) (h : ∀ w, St w0 O m w → R (.returned (retV vs)) w) : At N [] w0 O .normal s m (bodyPostM (FW none) 0 P fn R) := fun a w hs hd hm => by
  show LeavesInM (FW none) 0 P fn a.tmps R a.defers .returning w
  rw [hd]
  exact ⟨_, run_results hr hv hs hm, h w hm⟩
end
end Go.Proofs.Ytjdbdjmfimbbkaa
