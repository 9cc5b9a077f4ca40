/- Own texts of this seat, packed: Frx, Cpy, Mis, Wrp, Row, Drh, Pan, Txt, Map, Spl, Vop, Opn, Stc, Cut. -/
import Derived.Test.YtnncjfphdcfimaaK2
import Derived.Laws.CopyRow
import Derived.Laws.IdiomCopy
import Derived.ProofKit
import Derived.OpenShut
import Derived.ShutString
import Derived.ChangeOld
import Derived.OrdersIn
import Derived.RecoverIn
import Derived.WalkSmall
import Derived.WideLaws
import Derived.Laws.IdiomStrings
import Derived.Laws.Strings3
import Derived.Laws.DeepStrings4
import Derived.Laws.Concat
import Derived.Deep.AppendSrc
import Derived.Lib.AppendStr
import Derived.MapKept
/- Ranges over functions whose rounds leave data that is known only then: yields, iterators, ranges; the base moves on. -/
set_option linter.unusedVariables false
set_option linter.unusedSimpArgs false
namespace Go.Proofs.Ytnncjfphdcfimaa
open Go.RowKit

section
variable {w0 w1 : World} {O O1 : List Nat} {α : Type}
theorem RebT.old [Elt α] {v : Value} {l : List α} (hr : RebT w0 O w1 O1) (hn : ∃ m, St w1 O1 m w1) (hO : ∀ b ∈ O1, w0.heap.size ≤ b ∨ b ∈ O) (h : RdOld w0 O v l) : RdOld w1 O1 v l := by
  obtain ⟨m, hm⟩ := hn
  exact ⟨h.old.new (hr.h _ _ hm) hO⟩
end

section
variable {ro : Option Nat} {P : Program} {N : Nat} {D : List Deferred} {w0 : World} {O : List Nat} {ops : Array Oper} {l : List Oper} {s : List (Nat × Value)} {m : List As} {Q : Exit → Act → World → Prop}
variable {d : Nat} {ty : TypeId} {pos : String} {af : Array Edge} {X τ : Type} [Dp τ]

/-- what a round leaves: it goes on (true) or not, some x with Φ, the data T x, the memory M x -/
def RndX (w0 : World) (O : List Nat) (Φ : Bool → X → Prop) (T : X → τ) (M : Bool → X → List As) (e : Ending) (w : World) : Prop :=
  ∃ b x, e = .returned (.bool b) ∧ Φ b x ∧ St w0 O (M b x) w ∧ Dp.tru w (foots (M b x)) (T x)
def YdX (P : Program) (yl : Nat) (vals : List Value) (w0 : World) (O : List Nat) (m : List As) (Φ : Bool → X → Prop) (T : X → τ) (M : Bool → X → List As) : Prop :=
  ∀ w, St w0 O m w → Yd P yl vals.toArray w (RndX w0 O Φ T M)

theorem G_yieldX {x : Operand} {args : Array Operand} {at_ : Array TypeId} {vals : List Value} {yl : Nat} {Φ : Bool → X → Prop} {T : X → τ} {M : Bool → X → List As}
    (hx : ev s x = some (yv yl)) (ha : evs s args.toList = some vals) (hN : Nat.blt d N = true) (hy : YdX P yl vals w0 O m Φ T M)
    (k : ∀ b x w1 [Reb w0 O w1 (foots (M b x))] [Tru w1 (foots (M b x)) (T x)], Φ b x → G ro P N D w1 (foots (M b x)) ops l ((d, .bool b) :: s) (M b x) Q) :
    G ro P N D w0 O ops (⟨some d, .call ⟨.value x, args, at_⟩, ty, pos, af, none⟩ :: l) s m Q := fun a w hs hdf hm => by
  have h1 : args.map a.eval = vals.toArray := by rw [← evs_map hs ha]; apply Array.ext'; simp
  simp only [wpL, Region.wanted, if_true]
  refine ⟨fun _ _ => trivial, ?_⟩
  rw [Oper.semAt_eq _ _ _ (by simp)]
  obtain ⟨fn, tmps, assign, body, hyr, hR⟩ := hy w hm
  have hrun : (execOp a.eval ⟨some d, .call ⟨.value x, args, at_⟩, ty, pos, af, none⟩).run P w = .ok (.round yl fn tmps assign body) w := by
    have e3 : #[] ++ vals.toArray = vals.toArray := by simp
    simp only [execOp, resolve, hs.ev hx, Deferred.ofValue, h1, Sem.run_bind, Sem.run_pure, Result.andThen, invoke, e3, hyr]
  rw [hrun, Oper.uponIn_round]
  refine ⟨fun h => by simp [FW] at h, ?_⟩
  refine RoundIn.mono (F := FW ro) ⟨trivial, hR.2⟩ ?_
  rintro e w' ⟨b, x, rfl, hP, hst, ht⟩
  haveI := Reb.of hst
  haveI : Tru w' (foots (M b x)) (T x) := ⟨ht⟩
  exact k b x w' hP _ _ (hs.put d _ hN) (by simpa [Act.put] using hdf) hst.now

/-- A range over a function. -/
theorem GC_rangeX {g : Operand} {ps : Array Tmp} {assign body : Code} {gf : FuncId} {first cap : List Value} (Φ : X → Prop) (T : X → τ) (M2 : X → List As) (pend : X → Option Code)
    (hg : ev s g = some (.func (.func gf) first.toArray cap.toArray)) [he : En P gf]
    (hc : ∀ fn tmps dd ll w1 (rc : LoopState → Option Code → Obj), rc = (fun st pd => recd st pd fn tmps ps assign body dd) → Has N s ⟨tmps, D⟩ → St w0 O (.box ll (rc .ready none) :: .box dd (.deferred (some [])) :: m) w1 →
      Calls P gf (first ++ [yv ll] ++ cap).toArray w1 (fun e w2 => ∃ x st, Φ x ∧ st ≠ .busy ∧ (∃ v, e = .returned v) ∧ St w0 O (.box ll (rc st (pend x)) :: .box dd (.deferred (some [])) :: M2 x) w2 ∧
        Dp.tru w2 (foots (.box ll (rc st (pend x)) :: .box dd (.deferred (some [])) :: M2 x)) (T x)))
    (k : ∀ dd x w1 [Reb w0 O w1 (foots (.box dd (.deferred (some [])) :: M2 x))] [Tru w1 (foots (.box dd (.deferred (some [])) :: M2 x)) (T x)], Φ x → pend x = none → At N (mkD dd :: D) w1 (foots (.box dd (.deferred (some [])) :: M2 x)) .normal s (.box dd (.deferred (some [])) :: M2 x) Q)
    (kx : ∀ dd x c w1 [Reb w0 O w1 (foots (.box dd (.deferred (some [])) :: M2 x))] [Tru w1 (foots (.box dd (.deferred (some [])) :: M2 x)) (T x)], Φ x → pend x = some c → GC none P N (mkD dd :: D) w1 (foots (.box dd (.deferred (some [])) :: M2 x)) c s (.box dd (.deferred (some [])) :: M2 x) Q) :
    GC none P N D w0 O (.rangeFunc g ps assign body) s m Q := fun a w hs hd hm => by
  refine wpIn_rangeFunc (F := FW none) (n := 0) fun fn _ => ?_
  have h1 := hm.alloc (.deferred (some []))
  have h2 := h1.alloc (recd .ready none fn a.tmps ps assign body w.heap.size)
  have hll : (w.alloc (.deferred (some []))).heap.size = w.heap.size + 1 := by simp
  rw [hll] at h2
  refine ⟨w.heap.size + 1, [mkD w.heap.size], (w.alloc (.deferred (some []))).alloc (recd .ready none fn a.tmps ps assign body w.heap.size), ⟨.fn (.func gf) cap.toArray, (first ++ [yv (w.heap.size + 1)]).toArray⟩, (w.alloc (.deferred (some []))).alloc (recd .ready none fn a.tmps ps assign body w.heap.size), gf, (first ++ [yv (w.heap.size + 1)] ++ cap).toArray, (w.alloc (.deferred (some []))).alloc (recd .ready none fn a.tmps ps assign body w.heap.size), ?_, ?_, ?_, ?_, ?_, ?_⟩
  · exact run_enterLoop_outer _ _ _ _ _
  · have e1 : (rangeCall g (w.heap.size + 1)).args.map a.eval = #[yv (w.heap.size + 1)] := by
      apply Array.ext'; simp [rangeCall, Act.eval]
    simp only [resolve, e1]
    simp only [hs.ev hg, Deferred.ofValue, Sem.run_pure]
    simp
  · intro f' _; trivial
  · have e3 : (first ++ [yv (w.heap.size + 1)]).toArray ++ cap.toArray = (first ++ [yv (w.heap.size + 1)] ++ cap).toArray := by simp
    simp only [invoke, e3]
    exact he.run _ _
  · intro h; simp [FW] at h
  · refine callsFW ((hc fn a.tmps w.heap.size (w.heap.size + 1) _ (fun st pd => recd st pd fn a.tmps ps assign body w.heap.size) rfl ⟨hs.size, hs.at_⟩ h2).mono ?_)
    rintro e w2 ⟨x, st, hi, hst, ⟨v, rfl⟩, hm2, ht⟩
    have hr : w2.heap[w.heap.size + 1]? = some (recd st (pend x) fn a.tmps ps assign body w.heap.size) := hm2.ok (.box _ _) (List.Mem.head _)
    have hend := run_endLoop (P := P) hr hst
    refine ⟨pend x, _, hend, ?_⟩
    have hm3 := St.putObj (o' := .loop { state := .exhausted, pending := pend x, fn := fn, tmps := a.tmps, params := ps, assign := assign, body := body, defers := w.heap.size }) Put.here hm2
    have hm3' := St.putObj (o' := .loop { state := .exhausted, pending := pend x, fn := fn, tmps := a.tmps, params := ps, assign := assign, body := body, defers := w.heap.size }) Put.here hm2.now
    have hm4 := hm3.drop (m' := .box w.heap.size (.deferred (some [])) :: M2 x) (.cons _ (.refl _))
    have hd' : ([mkD w.heap.size] ++ a.defers) = mkD w.heap.size :: D := by rw [hd]; rfl
    have ht2 := Dp.lift (O' := foots (.box w.heap.size (.deferred (some [])) :: M2 x)) (hm3'.drop (m' := .box w.heap.size (.deferred (some [])) :: M2 x) (.cons _ (.refl _))) (fun b hb => .inr (by simp only [foots, List.flatMap_cons, List.mem_append] at hb ⊢; exact .inr hb)) ht
    cases hp : pend x with
    | none =>
      rw [hp] at hm4 ht2
      haveI := Reb.of hm4
      haveI : Tru _ (foots (.box w.heap.size (.deferred (some [])) :: M2 x)) (T x) := ⟨ht2⟩
      exact k w.heap.size x _ hi hp { a with defers := [mkD w.heap.size] ++ a.defers } _ ⟨hs.size, hs.at_⟩ hd' hm4.now
    | some c =>
      rw [hp] at hm4 ht2
      haveI := Reb.of hm4
      haveI : Tru _ (foots (.box w.heap.size (.deferred (some [])) :: M2 x)) (T x) := ⟨ht2⟩
      exact kx w.heap.size x c _ hi hp { a with defers := [mkD w.heap.size] ++ a.defers } _ ⟨hs.size, hs.at_⟩ hd' hm4.now

/-- a round's end, as its iterator sees it -/
theorem RndX.mk {Φ : Bool → X → Prop} {T : X → τ} {M : Bool → X → List As} {w1 w' : World} {O1 : List Nat} {m' : List As} (b : Bool) (x : X) (hP : Φ b x) (h : St w1 O1 m' w') [hb : RebT w0 O w1 O1] [hm : SubM m' (M b x)] (ht : ∀ [Reb w1 O1 w' (foots (M b x))], Tru w' (foots (M b x)) (T x) := by intro _; exact inferInstance) :
    RndX w0 O Φ T M (.returned (.bool b)) w' := by
  have h1 := hm.ent.st h
  haveI := Reb.of h1
  exact ⟨b, x, rfl, hP, hb.h _ _ h1, ht.h⟩
end
end Go.Proofs.Ytnncjfphdcfimaa
/- copy onto rows of the call's own, where an element takes one cell. -/
set_option linter.unusedVariables false
set_option linter.unusedSimpArgs false
namespace Go.Proofs.Ytnncjfphdcfimaa
open Go.RowKit

/-- l with the first k elements of ys from lo on -/
def cpyL {α : Type} (l : List α) (lo : Nat) (ys : List α) (k : Nat) : List α := l.take lo ++ (ys.take k ++ l.drop (lo + k))
theorem cpyL_length {α : Type} {l ys : List α} {lo k : Nat} (h : lo + k ≤ l.length) (h2 : k ≤ ys.length) : (cpyL l lo ys k).length = l.length := by
  simp only [cpyL, List.length_append, List.length_take, List.length_drop]; omega
theorem cpyL_zero {α : Type} (l : List α) (lo : Nat) (ys : List α) : cpyL l lo ys 0 = l := by simp [cpyL]

section
variable {ro : Option Nat} {P : Program} {N : Nat} {D : List Deferred} {w0 : World} {O : List Nat} {ops : Array Oper} {lo : List Oper} {s : List (Nat × Value)} {m : List As} {Q : Exit → Act → World → Prop}
variable {d : Nat} {ty : TypeId} {pos : String} {af : Array Edge} {α : Type} [Elt α] [hsc : Scal α]

theorem sc_size {P : Program} {t : TypeId} {z : Value} (h : Sc P t z) : (P.info? t).map (·.size) = some 1 := by
  obtain ⟨i, h1, _, h3⟩ := h.info
  rw [h1, ← h3]; rfl

theorem G_copyC {t t' e : TypeId} {z : Value} {x y : Operand} {v u u' : Value} {l ys : List α} {mk : List As} (a b : Nat) [ht : Und P t (.slice e)] [hL : Lay P e α] [hS : Sc P e z] (hx : ev s x = some u) (hy : ev s y = some u') (hN : Nat.blt d N = true) [ho : OwnR v m e l mk] [h : RdR w0 O m u' ys]
    (hab : a ≤ b) (hb : b ≤ l.length) (hu0 : ∀ w, St w0 O m w → ∃ A c', u = .slice A (b - a) c') (hu : ∀ g cap, v = .slice (some ⟨g, 0, none⟩) l.length cap → l.length ≤ cap → a < b → ∃ c', u = .slice (some ⟨g, a, none⟩) (b - a) c')
    (k : G ro P N D w0 O ops lo ((d, I (min ys.length (b - a) : Nat)) :: s) (row v e (cpyL l a ys (min ys.length (b - a))) :: mk) Q) :
    G ro P N D w0 O ops (⟨some d, .call ⟨.builtin .copy, #[x, y], #[t, t']⟩, ty, pos, af, none⟩ :: lo) s m Q := by
  have hsz := hsc.sz
  have hel : ∀ q : List α, (encs q).length = q.length := fun q => by rw [encs_length, hsz, Nat.mul_one]
  generalize hk : min ys.length (b - a) = kk at k
  have hcl := cpyL_length (l := l) (ys := ys) (lo := a) (k := kk) (by omega) (by omega)
  refine G_any (ι := Unit) (fun _ => I kk) (fun _ => row v e (cpyL l a ys kk) :: mk) (fun _ => True) rfl rfl (by simp) hN (fun ac w hs hm => ?_) (fun _ _ => k)
  obtain ⟨A', c', rfl, hc1, hc2, hrd⟩ := (h.rd w hm).form
  obtain ⟨A, cu, rfl⟩ := hu0 w hm
  refine ⟨(), ?_⟩
  have hm' := ho.ent.st hm
  by_cases h0 : kk = 0
  · refine ⟨w, trivial, ?_, ?_⟩
    · have hr := run_copy_none (P := P) w t t' ty e A A' (b - a) cu ys.length c' ht.eq (sc_size hS) (by
        show min ys.length (b - a) = 0
        omega)
      simp only [execOp, resolve, invoke, builtin, Sem.run_bind, Sem.run_pure, Result.andThen, List.map_toArray, List.map_cons, List.map_nil, hs.ev hx, hs.ev hy, Deferred.ofValue, hr, h0]
      rfl
    · rw [h0, cpyL_zero]; exact hm'
  · have hpos : 0 < kk := by omega
    have hrow := row_ok (hm'.ok _ (List.Mem.head _))
    rcases hrow.2 with ⟨_, hn0⟩ | ⟨g, cap, cur, hv, hb0, hg, h1, h2, h3, h4⟩
    · omega
    · subst hv
      obtain ⟨c2, hu2⟩ := hu g cap rfl h1 (by omega)
      injection hu2 with e1 e2 e3
      subst e1 e3
      rw [hsz, Nat.mul_one] at h3 h4
      obtain ⟨ad, rfl, hrd2⟩ := hrd (by omega)
      have hcs : (encs (ys.take kk)).length = kk := by rw [hel]; simp; omega
      have hr := run_copy_row (P := P) w t t' ty e g a (b - a) cu ad ys.length c' cur e (encs (ys.take kk)) ht.eq (sc_size hS) hg (by
          show _ = min ys.length (b - a)
          omega) (fun j q hq => by
        have hj : j < kk := by
          have := (List.getElem?_eq_some_iff.1 hq).1
          omega
        have hjy : j < ys.length := by omega
        have := hrd2 j 0 q hjy hjy (by
          have e5 := encs_get (l := ys.take kk) (j := j) (o := 0) (by simp; omega) (by omega)
          rw [hsz, Nat.mul_one, Nat.add_zero, hq] at e5
          rw [e5]; simp)
        rwa [hsz, Nat.mul_one, Nat.add_zero] at this) (by omega) (encs_one _)
      refine ⟨w.setRow g (cur.toList.take a ++ encs (ys.take kk) ++ cur.toList.drop (a + (encs (ys.take kk)).length)).toArray, trivial, ?_, ?_⟩
      · simp only [execOp, resolve, invoke, builtin, Sem.run_bind, Sem.run_pure, Result.andThen, List.map_toArray, List.map_cons, List.map_nil, hs.ev hx, hs.ev hy, Deferred.ofValue, hr, hcs]
        rfl
      · have hcurl : cur.toList.length = cap := by simp [h3]
        have hst : St w [g] [row (.slice (some ⟨g, 0, none⟩) l.length cap) e (cpyL l a ys kk)] (w.setRow g (cur.toList.take a ++ encs (ys.take kk) ++ cur.toList.drop (a + (encs (ys.take kk)).length)).toArray) := by
          refine ⟨rfl, rfl, rfl, by simp [World.setRow], fun q hq hqo => setRow_other w g q _ (by simpa using hqo), ?_, by simp [row, As.foot, Value.ownBlock], fun q hq => .inr (by simpa [row, As.foot, Value.ownBlock] using hq)⟩
          intro q hq
          rw [List.mem_singleton.1 hq]
          show World.ownsRow _ 0 e (Elt.sz α) _ _ _
          refine ⟨by rw [hel, hsz]; omega, .inr ⟨g, cap, _, by rw [hcl], Nat.zero_le _, setRow_heap w g cur _ e _ hg, by omega, h2, ?_, ?_⟩⟩
          · simp only [List.size_toArray, List.length_append, List.length_take, List.length_drop, hcurl, hcs, hsz]
            omega
          · rw [hsz, Nat.mul_one, hcl]
            have e6 : cur.toList.take l.length = encs l := h4
            have e7 : encs (cpyL l a ys kk) = (encs l).take a ++ (encs (ys.take kk) ++ (encs l).drop (a + kk)) := by
              have t1 := encs_take a l
              have t2 := encs_drop (a + kk) l
              rw [hsz, Nat.mul_one] at t1 t2
              rw [cpyL, encs_append, encs_append, t1, t2]
            rw [e7, ← e6, hcs]
            simp only [List.append_assoc]
            rw [List.take_append, List.take_append]
            simp only [List.length_take, hcurl, hcs, List.take_take, List.drop_take]
            congr 1
            · congr 1; omega
            · congr 1
              · rw [List.take_of_length_le (by rw [hcs]; omega)]
              · congr 1; omega
        have h5 := hm'.step (mk := mk) (mg := [row (.slice (some ⟨g, 0, none⟩) l.length cap) e l]) hst (List.perm_append_comm (l₁ := [_])) (by simp [row, As.foot, Value.ownBlock])
        simpa using h5
theorem G_copyA {t t' e : TypeId} {z : Value} {x y : Operand} {v u' : Value} {l ys : List α} {mk : List As} [ht : Und P t (.slice e)] [hL : Lay P e α] [hS : Sc P e z] (hx : ev s x = some v) (hy : ev s y = some u') (hN : Nat.blt d N = true) [ho : OwnR v m e l mk] [h : RdR w0 O m u' ys]
    (k : G ro P N D w0 O ops lo ((d, I (min ys.length l.length : Nat)) :: s) (row v e (cpyL l 0 ys (min ys.length l.length)) :: mk) Q) :
    G ro P N D w0 O ops (⟨some d, .call ⟨.builtin .copy, #[x, y], #[t, t']⟩, ty, pos, af, none⟩ :: lo) s m Q :=
  G_copyC 0 l.length hx hy hN (Nat.zero_le _) (Nat.le_refl _) (fun w hw => by
    obtain ⟨A, c, h1, _⟩ := RdL.form (α := α) (rd_own (row_ok ((ho.ent.st hw).ok _ (List.Mem.head _))))
    exact ⟨A, c, h1⟩) (fun g cap h1 _ _ => ⟨cap, h1⟩) (by rw [Nat.sub_zero]; exact k)
theorem G_copyT {t t' e : TypeId} {z : Value} {x y : Operand} {v u' : Value} {l ys : List α} {mk : List As} {a b : Nat} [ht : Und P t (.slice e)] [hL : Lay P e α] [hS : Sc P e z] (hx : ev s x = some (cut α v a b)) (hy : ev s y = some u') (hN : Nat.blt d N = true) [ho : OwnR v m e l mk] [h : RdR w0 O m u' ys]
    (k : G ro P N D w0 O ops lo ((d, I (min ys.length (b - a) : Nat)) :: s) (row v e (cpyL l a ys (min ys.length (b - a))) :: mk) Q) (hab : a ≤ b ∧ b ≤ l.length := by omega) :
    G ro P N D w0 O ops (⟨some d, .call ⟨.builtin .copy, #[x, y], #[t, t']⟩, ty, pos, af, none⟩ :: lo) s m Q :=
  G_copyC a b hx hy hN hab.1 hab.2 (fun w hw => by
    obtain ⟨A, c, h1, _⟩ := RdL.form (α := α) (rd_own (row_ok ((ho.ent.st hw).ok _ (List.Mem.head _))))
    rw [h1]; exact ⟨_, _, rfl⟩) (fun g cap h1 h2 h3 => by
    have hne : ¬ cap = a := by omega
    subst h1
    refine ⟨cap - a, ?_⟩
    simp only [cut, if_neg hne, Option.map_some, hsc.sz, Nat.mul_one, addr_add, Nat.zero_add]) k
end
end Go.Proofs.Ytnncjfphdcfimaa
/- More operations: an index of an array's value. -/
set_option linter.unusedVariables false
set_option linter.unusedSimpArgs false
namespace Go.Proofs.Ytnncjfphdcfimaa
open Go.RowKit

instance (priority := low) Held.appL {b : Nat} {o : Obj} {m l : List As} [h : Held b m o] : Held b (m ++ l) o := ⟨List.mem_append_left _ h.mem⟩
instance (priority := low) rdR_appL {w0 : World} {O : List Nat} {m l : List As} {α : Type} [Elt α] {v : Value} {xs : List α} [h : RdR w0 O m v xs] : RdR w0 O (m ++ l) v xs := ⟨fun w hw => h.rd w (hw.drop (List.sublist_append_left _ _))⟩
theorem rdR_tail {w0 : World} {O : List Nat} {m : List As} {α : Type} [Elt α] {v : Value} {l : List α} {lo : Nat} [h : RdR w0 O m v l] [hb : Fct (lo ≤ l.length ∧ l.length ≤ l.length)] : RdR w0 O m (cut α v lo l.length) (l.drop lo) := ⟨fun w hw => by
  have := (h.rd w hw).cut hb.out.1 (Nat.le_refl _)
  rwa [List.take_of_length_le (by simp)] at this⟩
/-- a place where several ways meet: some i with Φ i -/
def CutX (N : Nat) (D : List Deferred) (w0 : World) (O : List Nat) {ι : Type} (Φ : ι → Prop) (S : ι → List (Nat × Value)) (M : ι → List As) : Exit → Act → World → Prop :=
  fun e a w => e = .normal ∧ ∃ i, Φ i ∧ Has N (S i) a ∧ a.defers = D ∧ St w0 O (M i) w
theorem GC_cutX {ι : Type} {ro : Option Nat} {P : Program} {N : Nat} {D : List Deferred} {w0 : World} {O : List Nat} {s : List (Nat × Value)} {m : List As} {Q : Exit → Act → World → Prop} {x : Code} (Φ : ι → Prop) (S : ι → List (Nat × Value)) (M : ι → List As)
    (h : GC ro P N D w0 O x s m (CutX N D w0 O Φ S M)) (k : ∀ i, Φ i → At N D w0 O .normal (S i) (M i) Q) : GC ro P N D w0 O x s m Q := fun a w hs hd hw => Code.wpIn_mono (fun e a w hq => by
  obtain ⟨rfl, i, hi, h1, h2, h3⟩ := hq
  exact k i hi a w h1 h2 h3) (h a w hs hd hw)
theorem At_cutX {ι : Type} {N : Nat} {D : List Deferred} {w0 : World} {O : List Nat} {s : List (Nat × Value)} {m : List As} {Φ : ι → Prop} {S : ι → List (Nat × Value)} {M : ι → List As} (i : ι) (hi : Φ i) (hs : subs s (S i)) [hm : SubM m (M i)] : At N D w0 O .normal s m (CutX N D w0 O Φ S M) :=
  fun a w h1 h2 h3 => ⟨rfl, i, hi, h1.sub hs.at_, h2, hm.ent.st h3⟩
section
variable {ro : Option Nat} {P : Program} {N : Nat} {D : List Deferred} {w0 : World} {O : List Nat} {ops : Array Oper} {l : List Oper} {s : List (Nat × Value)} {m : List As} {Q : Exit → Act → World → Prop}
variable {d : Nat} {ty : TypeId} {pos : String} {af : Array Edge}
theorem run_index {w : World} {t e : TypeId} {n sz : Nat} {vs : Array Value} {v : Value} {kx : IntKind} {j : Nat} [ht : Und P t (.array n e)] (hs : (sizeOf e).run P w = .ok sz w) (hj : j < n) (hp : (part e vs (j * sz)).run P w = .ok v w) :
    (Instr.index t (.agg vs) (.int kx (j : Int))).run P w = .ok v w := by
  have h1 : (0 : Int) ≤ (j : Int) ∧ (j : Int) < (n : Int) := ⟨by omega, by omega⟩
  simp only [Instr.index, asIntOf, Sem.run_bind, Sem.run_pure, Result.andThen, run_underlying ht.eq, if_pos h1, hs, Int.toNat_natCast, hp]
theorem G_indexAny {t : TypeId} {x y : Operand} {u v : Value} {kx : IntKind} {j : Nat} (hx : ev s x = some u) (hy : ev s y = some (.int kx (j : Int))) (hp : ∀ w, (Instr.index t u (.int kx (j : Int))).run P w = .ok v w) (hN : Nat.blt d N = true)
    (k : G ro P N D w0 O ops l ((d, v) :: s) m Q) : G ro P N D w0 O ops (⟨some d, .index t x y, ty, pos, af, none⟩ :: l) s m Q :=
  G_val v rfl rfl (by simp) hN (fun a w hs hm => by simp [execOp, hs.ev hx, hs.ev hy, hp w]) k
theorem G_indexG {t e : TypeId} {n : Nat} {zs us vs : List Value} {x y : Operand} {kx : IntKind} {i : Int} {j : Nat} {sd : Prop} [ht : Und P t (.array n e)] [hS : Ag P e zs] (hx : ev s x = some (.agg vs.toArray)) (hy : ev s y = some (.int kx i)) [hj : NatR i j sd]
    (hv : (vs.drop (j * zs.length)).take zs.length = us) (hN : Nat.blt d N = true) (k : G ro P N D w0 O ops l ((d, .agg us.toArray) :: s) m Q) (hjn : sd ∧ j < n := by first | exact trivial | omega | (simp only [true_and, and_true, and_self]; omega) | exact ⟨trivial, rfl⟩ | exact ⟨rfl, rfl, by decide⟩ | rfl | (simp only [true_and, and_true, and_self]; done) | decide | assumption | exact ⟨by assumption, by omega⟩ | exact ⟨by assumption, by assumption⟩ | exact ⟨by assumption, by assumption, by omega⟩) :
    G ro P N D w0 O ops (⟨some d, .index t x y, ty, pos, af, none⟩ :: l) s m Q := by
  have e1 := hj.eq hjn.1
  subst e1
  refine G_indexAny hx hy (fun w => run_index (run_sizeOfA hS) hjn.2 ?_) hN k
  have e : vs.toArray.extract (j * zs.length) (j * zs.length + zs.length) = us.toArray := by rw [← hv]; apply Array.ext'; simp [List.extract_eq_take_drop, Nat.add_sub_cancel_left]
  simp [part, run_isAggA hS, run_sizeOfA hS, hv]
theorem G_indexSc {t e : TypeId} {n : Nat} {z v : Value} {vs : List Value} {x y : Operand} {kx : IntKind} {i : Int} {j : Nat} {sd : Prop} [ht : Und P t (.array n e)] [hS : Sc P e z] (hx : ev s x = some (.agg vs.toArray)) (hy : ev s y = some (.int kx i)) [hj : NatR i j sd]
    (hv : nthV vs j = some v) (hN : Nat.blt d N = true) (k : G ro P N D w0 O ops l ((d, v) :: s) m Q) (hjn : sd ∧ j < n := by first | exact trivial | omega | (simp only [true_and, and_true, and_self]; omega) | exact ⟨trivial, rfl⟩ | exact ⟨rfl, rfl, by decide⟩ | rfl | (simp only [true_and, and_true, and_self]; done) | decide | assumption | exact ⟨by assumption, by omega⟩ | exact ⟨by assumption, by assumption⟩ | exact ⟨by assumption, by assumption, by omega⟩) :
    G ro P N D w0 O ops (⟨some d, .index t x y, ty, pos, af, none⟩ :: l) s m Q := by
  have e1 := hj.eq hjn.1
  subst e1
  refine G_indexAny hx hy (fun w => run_index (run_sizeOf hS) hjn.2 ?_) hN k
  rw [nthV_eq] at hv
  simp [part, run_isAgg hS, hv]
theorem Is_index {t : TypeId} {x y : Operand} (h : G ro P N D w0 O ops (⟨some d, .index t x y, ty, pos, af, none⟩ :: l) s m Q) : G ro P N D w0 O ops (⟨some d, .index t x y, ty, pos, af, none⟩ :: l) s m Q := h
end
end Go.Proofs.Ytnncjfphdcfimaa
/- Sums and differences of ints that wrap; slices beside nil. -/
set_option linter.unusedVariables false
set_option linter.unusedSimpArgs false
namespace Go.Proofs.Ytnncjfphdcfimaa
open Go.RowKit

def wadd (a b : Int) : Int := IntKind.i64.wrap (a + b)
def wmul (a b : Int) : Int := IntKind.i64.wrap (a * b)
def wsub (a b : Int) : Int := IntKind.i64.wrap (a - b)
theorem wrap_range (x : Int) : -9223372036854775808 ≤ IntKind.i64.wrap x ∧ IntKind.i64.wrap x ≤ 9223372036854775807 := by rw [IntKind.wrap_i64]; omega
theorem wadd_in {a b : Int} (h : -9223372036854775808 ≤ a + b ∧ a + b ≤ 9223372036854775807) : wadd a b = a + b := IntWalk.i64_in _ h
theorem wsub_in {a b : Int} (h : -9223372036854775808 ≤ a - b ∧ a - b ≤ 9223372036854775807) : wsub a b = a - b := IntWalk.i64_in _ h
theorem wadd_wsub {a b : Int} (h : -9223372036854775808 ≤ a ∧ a ≤ 9223372036854775807) : wadd (wsub a b) b = a := by unfold wadd wsub; rw [IntKind.wrap_i64, IntKind.wrap_i64]; omega
theorem wsub_wadd {a b : Int} (h : -9223372036854775808 ≤ a ∧ a ≤ 9223372036854775807) : wsub (wadd a b) b = a := by unfold wadd wsub; rw [IntKind.wrap_i64, IntKind.wrap_i64]; omega
theorem wadd_comm (a b : Int) : wadd a b = wadd b a := by unfold wadd; rw [Int.add_comm]
section
variable {ro : Option Nat} {P : Program} {N : Nat} {D : List Deferred} {w0 : World} {O : List Nat} {ops : Array Oper} {l : List Oper} {s : List (Nat × Value)} {m : List As} {Q : Exit → Act → World → Prop}
variable {d : Nat} {ty : TypeId} {pos : String} {af : Array Edge}
theorem G_addW {t t' : TypeId} {x y : Operand} {a b : Int} (hx : ev s x = some (I a)) (hy : ev s y = some (I b)) (hN : Nat.blt d N = true) (k : G ro P N D w0 O ops l ((d, I (wadd a b)) :: s) m Q) :
    G ro P N D w0 O ops (⟨some d, .binOp .add t x y t', ty, pos, af, none⟩ :: l) s m Q := G_add hx hy hN rfl k
theorem G_mulW {t t' : TypeId} {x y : Operand} {a b : Int} (hx : ev s x = some (I a)) (hy : ev s y = some (I b)) (hN : Nat.blt d N = true) (k : G ro P N D w0 O ops l ((d, I (wmul a b)) :: s) m Q) :
    G ro P N D w0 O ops (⟨some d, .binOp .mul t x y t', ty, pos, af, none⟩ :: l) s m Q := G_mul hx hy hN rfl k
theorem G_subW {t t' : TypeId} {x y : Operand} {a b : Int} (hx : ev s x = some (I a)) (hy : ev s y = some (I b)) (hN : Nat.blt d N = true) (k : G ro P N D w0 O ops l ((d, I (wsub a b)) :: s) m Q) :
    G ro P N D w0 O ops (⟨some d, .binOp .sub t x y t', ty, pos, af, none⟩ :: l) s m Q := G_sub hx hy hN rfl k
/-- a slice beside nil: where they are equal, it has no elements -/
theorem G_eqNil {α : Type} [Elt α] {t t' e : TypeId} {x : Operand} {v : Value} {xs : List α} [ht : Und P t (.slice e)] [hL : Lay P e α] (hx : ev s x = some v) (hN : Nat.blt d N = true) [h : RdR w0 O m v xs]
    (k : ∀ b : Bool, (b = true → xs = []) → G ro P N D w0 O ops l ((d, .bool b) :: s) m Q) :
    G ro P N D w0 O ops (⟨some d, .binOp .eql t x (.const (.slice none 0 0)) t', ty, pos, af, none⟩ :: l) s m Q :=
  G_any (ι := Bool) (fun b => .bool b) (fun _ => m) (fun b => b = true → xs = []) rfl rfl (by simp) hN (fun a w hs hm => by
    obtain ⟨A, c, rfl, h1, h2, h3⟩ := (h.rd w hm).form
    refine ⟨A.isNone, w, fun hb => ?_, ?_, hm⟩
    · cases A with
      | none =>
        by_cases hp : 0 < xs.length
        · obtain ⟨ad, he, _⟩ := h3 hp; cases he
        · exact List.eq_nil_of_length_eq_zero (by omega)
      | some ad => cases hb
    · have e1 : (Op.equal t (.slice A xs.length c) (.slice none 0 0)).run P w = .ok A.isNone w := by
        unfold Op.equal Op.maxDepth Op.equalIn
        rw [Sem.run_bind, run_underlying ht.eq]
        cases A <;> rfl
      have e2 : (eqGuard .eql t x (.const (.slice none 0 0)) (.slice A xs.length c) (.slice none 0 0)).run P w = .ok () w := rfl
      have e3 : a.eval (.const (.slice none 0 0)) = .slice none 0 0 := rfl
      simp only [execOp, hs.ev hx, e3, Sem.run_bind, e2, Result.andThen, binOp, e1, Sem.run_pure]) (fun b hb => k b hb)
end
end Go.Proofs.Ytnncjfphdcfimaa
/- From a row's reading of the arguments to what the walks take. -/
set_option linter.unusedVariables false
set_option linter.unusedSimpArgs false
namespace Go.Proofs.Ytnncjfphdcfimaa
open Go.ChangeShapes Go.WideShapes Go.ChangeAt Go.RowKit

theorem u64_of {n : Int} (h : (Lit.int .u64 n).wf = true) : ∃ x : BitVec 64, n = (x.toNat : Int) := by
  simp only [Lit.wf, IntKind.min, IntKind.max, IntKind.signed, IntKind.bits, Bool.and_eq_true, decide_eq_true_eq] at h
  refine ⟨BitVec.ofInt 64 n, ?_⟩
  simp at h ⊢
  omega
theorem u8_of {n : Int} (h : (Lit.int .u8 n).wf = true) : ∃ x : BitVec 8, n = (x.toNat : Int) := by
  simp only [Lit.wf, IntKind.min, IntKind.max, IntKind.signed, IntKind.bits, Bool.and_eq_true, decide_eq_true_eq] at h
  refine ⟨BitVec.ofInt 8 n, ?_⟩
  simp at h ⊢
  omega
theorem u16_of {n : Int} (h : (Lit.int .u16 n).wf = true) : 0 ≤ n ∧ n ≤ 65535 := by
  simp only [Lit.wf, IntKind.min, IntKind.max, IntKind.signed, IntKind.bits, Bool.and_eq_true, decide_eq_true_eq] at h
  simp at h
  omega
theorem i64_of {n : Int} (h : (Lit.int .i64 n).wf = true) : -9223372036854775808 ≤ n ∧ n ≤ 9223372036854775807 := by
  simp only [Lit.wf, IntKind.min, IntKind.max, IntKind.signed, IntKind.bits, Bool.and_eq_true, decide_eq_true_eq] at h
  simp at h
  omega

section
variable {H : Type} {enc : TypeId × Value → H} {P : Program} {W : World} {base : Nat} {r : _root_.Go.Reach}

theorem open_rd {t e : TypeId} {k : IntKind} {v : Value} {d : DataW H} {p : List MemPlace} (ht : P.underlying t = some (.slice e)) (he : P.underlying e = some (.int k)) (hc : P.cellsOf e = 1) (hv : Value.okWide P W r base t v)
    (h : DataW.Trod enc P W 0 (fun _ => true) true t v d p) : ∃ zs : List Int, Rd W v 1 (zs.map (Value.int k)) ∧ ∀ z ∈ zs, (Lit.int k z).wf = true := by
  obtain ⟨a0, len, cap, rfl⟩ := okWide_slice ht hv
  obtain ⟨fuel, hf⟩ := h
  rcases open_ints ht he hc hf with ⟨hcs, _⟩ | ⟨x, l, c, zs, hcs, _, hl, hm, hz, _, hcell, hwz⟩
  · simp [Value.cells] at hcs
    obtain ⟨rfl, rfl, rfl⟩ := hcs
    exact ⟨[], rd_nil W 1, by simp⟩
  · simp [Value.cells] at hcs
    obtain ⟨rfl, rfl, rfl⟩ := hcs
    have hz2 : zs.length = cap := by simpa using hz
    refine ⟨zs.take len, ⟨_, len, cap, rfl, by simp; omega, hl, hm, fun hp => ⟨_, rfl, fun j u hu => ?_⟩⟩, fun z hz' => hwz z (List.mem_of_mem_take hz')⟩
    rw [List.getElem?_map] at hu
    cases hj : (zs.take len)[j]? with
    | none => rw [hj] at hu; simp at hu
    | some y =>
      rw [hj] at hu
      simp only [Option.map_some, Option.some.injEq] at hu
      rw [List.getElem?_take] at hj
      split at hj
      · have hlt := (List.getElem?_eq_some_iff.1 hj).1
        rw [hcell j hlt, ← hu]
        congr 2
        simp [List.getD, hj]
      · cases hj

theorem map_u8 {zs : List Int} (h : ∀ z ∈ zs, (Lit.int .u8 z).wf = true) : ∃ bs : List (BitVec 8), zs.map (Value.int .u8) = bs.map B8 := by
  refine ⟨zs.map (BitVec.ofInt 8), ?_⟩
  rw [List.map_map]
  apply List.map_congr_left
  intro z hz
  obtain ⟨x, rfl⟩ := u8_of (h z hz)
  simp [Function.comp]

theorem okWide_array {t e : TypeId} {n : Nat} {v : Value} (ht : P.underlying t = some (.array n e)) (h : Value.okWide P W r base t v) : ∃ cs, v = .agg cs := by
  simp only [Value.okWide, ht] at h
  obtain ⟨cs, h1, _⟩ := h
  exact ⟨cs, h1⟩

/-- an array of whole numbers -/
theorem open_arr {t e : TypeId} {k : IntKind} {n : Nat} {v : Value} {d : DataW H} {p : List MemPlace} (ht : P.underlying t = some (.array n e)) (he : P.underlying e = some (.int k)) (hc : P.cellsOf e = 1) (hn : P.cellsOf t = n) (hagg : ∃ cs, v = .agg cs)
    (h : DataW.Trod enc P W 0 (fun _ => true) true t v d p) : ∃ zs : List Int, v = .agg (zs.map (Value.int k)).toArray ∧ zs.length = n ∧ ∀ z ∈ zs, (Lit.int k z).wf = true := by
  obtain ⟨cs, rfl⟩ := hagg
  obtain ⟨fuel, hf⟩ := h
  obtain ⟨xs, m, rfl, hx, hl, hxl, hat⟩ := DataW.trod_array ht hf
  rw [hn] at hl
  simp only [Value.cells, hc, Nat.mul_one] at hat hl
  have key : ∀ i, i < n → ∃ z : Int, cs.toList[i]? = some (.int k z) ∧ (Lit.int k z).wf = true := by
    intro i hi
    have h1 := hat i hi
    have hlt : i < cs.toList.length := by omega
    rw [List.drop_eq_getElem_cons hlt, List.take_succ_cons, List.take_zero] at h1
    have hxi : i < xs.length := by omega
    rw [List.getElem?_eq_getElem hxi] at h1
    obtain ⟨z, hz, _, hwf⟩ := DataW.trod_int he h1
    simp only [List.cons.injEq, and_true] at hz
    exact ⟨z, by rw [List.getElem?_eq_getElem hlt, hz], hwf⟩
  have key2 : ∀ (l : List Value), (∀ i, i < l.length → ∃ z : Int, l[i]? = some (.int k z) ∧ (Lit.int k z).wf = true) → ∃ zs : List Int, l = zs.map (Value.int k) ∧ ∀ z ∈ zs, (Lit.int k z).wf = true := by
    intro l
    induction l with
    | nil => exact fun _ => ⟨[], rfl, by simp⟩
    | cons u us ih =>
      intro hh
      obtain ⟨z, hz, hwf⟩ := hh 0 (by simp)
      obtain ⟨zs, hzs, hws⟩ := ih (fun i hi => by have := hh (i + 1) (by simp; omega); simpa using this)
      simp only [List.getElem?_cons_zero, Option.some.injEq] at hz
      refine ⟨z :: zs, by rw [hz, hzs]; rfl, fun y hy => ?_⟩
      rcases List.mem_cons.1 hy with rfl | hy
      · exact hwf
      · exact hws y hy
  obtain ⟨zs, hzs, hws⟩ := key2 cs.toList (fun i hi => key i (by omega))
  refine ⟨zs, ?_, ?_, hws⟩
  · rw [← hzs]
  · have := congrArg List.length hzs
    simp at this hl
    omega
end

theorem list_1 {α : Type} : ∀ {l : List α}, l.length = 1 → ∃ a, l = [a]
  | [a], _ => ⟨a, rfl⟩
theorem list_2 {α : Type} : ∀ {l : List α}, l.length = 2 → ∃ a b, l = [a, b]
  | [a, b], _ => ⟨a, b, rfl⟩
theorem list_3 {α : Type} : ∀ {l : List α}, l.length = 3 → ∃ a b c, l = [a, b, c]
  | [a, b, c], _ => ⟨a, b, c, rfl⟩
theorem list_4 {α : Type} : ∀ {l : List α}, l.length = 4 → ∃ a b c d, l = [a, b, c, d]
  | [a, b, c, d], _ => ⟨a, b, c, d, rfl⟩
end Go.Proofs.Ytnncjfphdcfimaa
/- Regions that draw their order: what reads memory that lies there from the region's begin on is taken first too (the kit's 'held' orders, inside the fence). -/
set_option linter.unusedVariables false
set_option linter.unusedSimpArgs false
namespace Go.Proofs.Ytnncjfphdcfimaa
open Go.RowKit

/-- In state a, in every world that meets S, the operation yields v and does nothing else. -/
def YH (P : Program) (ops : Array Oper) (S : World → Prop) (o : Oper) (v : Value) (a : Act) : Prop :=
  ((Region.wanted o (yielded ops a.tmps) = true ∧ ∀ w, S w → (execOp a.eval o).run P w = .ok (.value v) w) ∨ (Region.wanted o (yielded ops a.tmps) = false ∧ v = undef)) ∧ ∀ w, o.about P w a.eval = none
section
variable {F : Fence} {n : Nat} {P : Program} {ops : Array Oper} {Q : Exit → Act → World → Prop} {S : World → Prop} {last : Nat → Bool}
theorem YH.wpOpIn {i : Nat} {o : Oper} {v : Value} {a : Act} (hro : F.round = none) (hi : ops[i]? = some o) (hy : YH P ops S o v a) {K : Act → World → Prop} {w : World} (hS : S w) (h : K (a.put o.dst v) w) : wpOpIn F n P ops Q i K a w := by
  unfold Go.wpOpIn
  simp only [hi]
  have hab : ∀ f, o.about P w a.eval = some f → F.fn f := fun f hf => by rw [hy.2 w] at hf; cases hf
  rcases hy.1 with ⟨hw, hv⟩ | ⟨hw, rfl⟩
  · simp only [hw, if_true, Oper.wpIn, hro, Oper.semAt_none, hv w hS, Oper.uponIn]; exact ⟨hab, h⟩
  · simp only [hw, Bool.false_eq_true, if_false]; exact ⟨hab, h⟩
theorem YH.of_same {o : Oper} {v : Value} {a a' : Act} (hy : YH P ops S o v a) (he : execOp a'.eval o = execOp a.eval o)
    (hw : Region.wanted o (yielded ops a'.tmps) = Region.wanted o (yielded ops a.tmps)) (hb : ∀ w, o.about P w a'.eval = o.about P w a.eval) : YH P ops S o v a' := by
  unfold YH at *
  rw [he, hw]
  exact ⟨hy.1, fun w => by rw [hb w]; exact hy.2 w⟩
theorem wpOpIn_putH {j : Nat} {oi oj : Oper} {v : Value} (hro : F.round = none) (hj : ops[j]? = some oj) (hap : oi.apart ops oj = true)
    (hsi : ∀ cs b, oi.op ≠ .select cs b) (hsj : ∀ cs b, oj.op ≠ .select cs b)
    (hQ : ∀ c a w, Q (.panic c) (a.put oi.dst v) w → Q (.panic c) a w) {K : Act → World → Prop} {a : Act} {w : World}
    (hy : YH P ops S oi v a) (h : wpOpIn F n P ops Q j K (a.put oi.dst v) w) :
    wpOpIn F n P ops Q j (fun a' w' => YH P ops S oi v a' ∧ K (a'.put oi.dst v) w') a w := by
  obtain ⟨h1, h2, h3⟩ := Oper.apart_spec hap
  have keep : ∀ (a : Act), YH P ops S oi v a → ∀ u, YH P ops S oi v (a.put oj.dst u) := fun a hy u =>
    hy.of_same (execOp_put oi hsi a oj.dst u h3) (wanted_put oi a oj.dst u h3) (fun w => about_put oi w a oj.dst u h3)
  have keepD : ∀ d, YH P ops S oi v { a with defers := d :: a.defers } := fun d => hy.of_same rfl rfl (fun _ => rfl)
  unfold wpOpIn at *
  simp only [hj] at *
  rw [wanted_put oj a oi.dst v h1, about_put oj w a oi.dst v h1] at h
  split
  · rename_i hw
    simp only [hw, if_true] at h
    unfold Oper.wpIn at *
    rw [about_put oj w a oi.dst v h1] at h
    refine ⟨h.1, ?_⟩
    have h := h.2
    rw [hro, Oper.semAt_none, execOp_put oj hsj a oi.dst v h1] at h
    rw [hro, Oper.semAt_none]
    generalize (execOp a.eval oj).run P w = r at *
    cases r with
    | ok x w' =>
      cases x <;> simp only [Oper.uponIn] at h ⊢
      case value u => exact ⟨keep a hy u, by rw [← Act.put_comm a v u h2]; exact h⟩
      case skip => exact ⟨keep a hy _, by rw [← Act.put_comm a v undef h2]; exact h⟩
      case defer d =>
        refine ⟨keep _ (keepD d) _, ?_⟩
        rw [← Act.put_comm _ v undef h2, ← Act.put_defers]
        exact h
      case enter f args =>
        refine ⟨h.1, CallsIn.mono h.2 fun e w'' he => ?_⟩
        cases e with
        | returned u => exact ⟨keep a hy u, by rw [← Act.put_comm a v u h2]; exact he⟩
        | panicked c => exact hQ _ _ _ he
        | outgrown => exact he
      case row row args => exact ⟨h.1, RowsIn.mono h.2 fun u w'' he => ⟨keep a hy u, by rw [← Act.put_comm a v u h2]; exact he⟩⟩
      case round l f tmps assign body =>
        refine ⟨h.1, RoundIn.mono h.2 fun e w'' he => ?_⟩
        cases e with
        | returned u => exact ⟨keep a hy u, by rw [← Act.put_comm a v u h2]; exact he⟩
        | panicked c => exact hQ _ _ _ he
        | outgrown => exact he
    | halt x w' =>
      cases x <;> simp only [Oper.uponIn] at h ⊢
      case panic u => exact hQ _ _ _ h
  · rename_i hw
    simp only [hw] at h
    exact ⟨h.1, keep a hy _, by rw [← Act.put_comm a v undef h2]; exact h.2⟩
/-- Whatever order is picked from here on; S holds behind every operation but the last one, which waits for all others. -/
def wpAnyS (F : Fence) (n : Nat) (P : Program) (ops : Array Oper) (Q : Exit → Act → World → Prop) (S : World → Prop) (last : Nat → Bool) : Nat → Array Bool → Act → World → Prop
  | 0, listed, a, w => Region.ready .any ops listed = [] ∧ Q .normal a w
  | fuel + 1, listed, a, w => (Region.ready .any ops listed = [] → Q .normal a w) ∧
    ∀ i ∈ Region.ready .any ops listed, wpOpIn F n P ops Q i (fun a' w' => (last i = false → S w') ∧ wpAnyS F n P ops Q S last fuel (listed.setIfInBounds i true) a' w') a w
theorem wpAnyIn_of_S : ∀ (fuel : Nat) (l : Array Bool) (a : Act) (w : World), wpAnyS F n P ops Q S last fuel l a w → wpAnyIn F n P .any ops Q fuel l a w
  | 0, _, _, _, h => h
  | fuel + 1, _, _, _, h => ⟨h.1, fun i hi => wpOpIn_mono (fun a' w' h' => wpAnyIn_of_S fuel _ a' w' h'.2) (h.2 i hi)⟩
theorem wpAnyS_first {i : Nat} {oi : Oper} {v : Value} (hro : F.round = none) (hi : ops[i]? = some oi) (hsel : ∀ (j : Nat) (o : Oper) cs b, ops[j]? = some o → o.op ≠ .select cs b)
    (hQ : ∀ c a w, Q (.panic c) (a.put oi.dst v) w → Q (.panic c) a w)
    (hlast : ∀ j oj, ops[j]? = some oj → j ≠ i → last j = true → ∃ e ∈ oj.after, Region.binds .any e = true ∧ e.on = i) :
    ∀ (fuel : Nat) (listed : Array Bool) (a : Act) (w : World),
      (∀ j oj, ops[j]? = some oj → j ≠ i → listed.getD j true = false → (∀ e ∈ oj.after, Region.binds .any e = true → e.on ≠ i) → oi.apart ops oj = true) →
      i ∈ Region.ready .any ops listed → YH P ops S oi v a → S w →
      wpAnyS F n P ops Q S last fuel (listed.setIfInBounds i true) (a.put oi.dst v) w → wpAnyS F n P ops Q S last (fuel + 1) listed a w := by
  intro fuel
  induction fuel with
  | zero =>
    intro listed a w _ hr hy hS H
    refine ⟨fun h => (by rw [h] at hr; cases hr), fun j hj => ?_⟩
    by_cases hji : j = i
    · subst hji; exact hy.wpOpIn hro hi hS ⟨fun _ => hS, H⟩
    · have := ready_mono hj hji
      rw [H.1] at this
      cases this
  | succ fuel ih =>
    intro listed a w hfree hr hy hS H
    refine ⟨fun h => (by rw [h] at hr; cases hr), fun j hj => ?_⟩
    by_cases hji : j = i
    · subst hji; exact hy.wpOpIn hro hi hS ⟨fun _ => hS, H⟩
    · have h1 := H.2 j (ready_mono hj hji)
      obtain ⟨hjun, oj, hoj, hall⟩ := mem_ready.1 hj
      have hnot : ∀ e ∈ oj.after, Region.binds .any e = true → e.on ≠ i := fun e he hb heq => by
        have h1 := hall e he hb
        have h0 := (mem_ready.1 hr).1
        rw [heq] at h1
        rcases Nat.lt_or_ge i listed.size with h' | h'
        · simp [h'] at h0 h1; rw [h0] at h1; cases h1
        · simp [Array.getElem?_eq_none h'] at h1
      have hl : last j = false := by
        cases hl : last j with
        | false => rfl
        | true =>
          obtain ⟨e, he, hb, heq⟩ := hlast j oj hoj hji hl
          exact absurd heq (hnot e he hb)
      have h2 := wpOpIn_putH hro hoj (hfree j oj hoj hji hjun hnot) (fun cs b => hsel i oi cs b hi) (fun cs b => hsel j oj cs b hoj) hQ hy h1
      have hfree' : ∀ k ok, ops[k]? = some ok → k ≠ i → (listed.setIfInBounds j true).getD k true = false →
          (∀ e ∈ ok.after, Region.binds .any e = true → e.on ≠ i) → oi.apart ops ok = true := fun k ok hk hki hun hno => by
        refine hfree k ok hk hki ?_ hno
        by_cases hjk : j = k
        · subst hjk; exact hjun
        · rw [getD_set_ne true hjk] at hun; exact hun
      refine wpOpIn_mono (fun a' w' h3 => ⟨fun _ => h3.2.1 hl, ih (listed.setIfInBounds j true) a' w' hfree' (ready_mono hr (Ne.symm hji)) h3.1 (h3.2.1 hl) ?_⟩) h2
      rw [Array.setIfInBounds_comm _ _ hji]
      exact h3.2.2
theorem wpAnyS_monoQ {Q' : Exit → Act → World → Prop} (hQ : ∀ e a w, Q e a w → Q' e a w) {fuel : Nat} {l : Array Bool} {a : Act} {w : World} (h : wpAnyS F n P ops Q S last fuel l a w) : wpAnyIn F n P .any ops Q' fuel l a w :=
  wpAnyIn_monoQ hQ _ _ _ _ (wpAnyIn_of_S _ _ _ _ h)
end

/-! ### The judgement -/
def lastGo (L : List Oper) (i : Nat) : Nat → Bool
  | 0 => true
  | j + 1 => (Nat.beq j i || memB j (predsAt L i)) && lastGo L i j
/-- operation i waits for all others -/
def lastA (L : List Oper) (i : Nat) : Bool := lastGo L i L.length
theorem lastGo_spec {L : List Oper} {i : Nat} : ∀ {n j : Nat}, lastGo L i n = true → j < n → j ≠ i → j ∈ predsAt L i
  | n + 1, j, h, hj, hne => by
    simp only [lastGo, Bool.and_eq_true, Bool.or_eq_true, memB_iff, beq_iff] at h
    by_cases e : j = n
    · subst e
      rcases h.1 with h4 | h4
      · exact absurd h4 hne
      · exact h4
    · exact lastGo_spec h.2 (by omega) hne
/-- GA, with what holds behind every operation but the last: (wS, OS, mS) -/
def GH (P : Program) (N : Nat) (D : List Deferred) (wS : World) (OS : List Nat) (mS : List As) (w0 : World) (O : List Nat) (ops : Array Oper) (L : List Oper) (fuel : Nat) (dn : List Nat) (s : List (Nat × Value)) (m : List As) (Q : Exit → Act → World → Prop) : Prop :=
  ∀ l, RelA L dn l → ∀ a w, Has N s a → a.defers = D → St w0 O m w → St wS OS mS w → wpAnyS (FW none) 0 P ops (QN Q) (St wS OS mS) (lastA L) fuel l a w
/-- what is asked behind operation i -/
def NxH (P : Program) (D : List Deferred) (wS : World) (OS : List Nat) (mS : List As) (ops : Array Oper) (L : List Oper) (fuel : Nat) (i : Nat) (dn : List Nat) (Q : Exit → Act → World → Prop) : Exit → Act → World → Prop :=
  fun e a w => e = .normal ∧ a.defers = D ∧ (lastA L i = false → St wS OS mS w) ∧ ∀ l, RelA L (i :: dn) l → wpAnyS (FW none) 0 P ops (QN Q) (St wS OS mS) (lastA L) fuel l a w
def GHR (P : Program) (N : Nat) (D : List Deferred) (wS : World) (OS : List Nat) (mS : List As) (w0 : World) (O : List Nat) (ops : Array Oper) (L : List Oper) (fuel : Nat) (dn : List Nat) (s : List (Nat × Value)) (m : List As) (Q : Exit → Act → World → Prop) (k : Nat) : Prop :=
  ∀ i, k ≤ i → i < L.length → notYet L dn i = true ∨ ∃ o, L[i]? = some o ∧ plainOp o.op = true ∧ G none P N D w0 O ops [o] s m (NxH P D wS OS mS ops L fuel i dn Q)
/-- operation i is to be taken -/
def GHX (i : Nat) (X : Prop) : Prop := X
attribute [irreducible] GHX
section
variable {P : Program} {N : Nat} {D : List Deferred} {wS w0 : World} {OS O : List Nat} {mS : List As} {ops : Array Oper} {L : List Oper} {fuel : Nat} {dn : List Nat} {s : List (Nat × Value)} {m : List As} {Q : Exit → Act → World → Prop} {k i : Nat}
theorem Is_GH (h : GH P N D wS OS mS w0 O ops L fuel dn s m Q) : GH P N D wS OS mS w0 O ops L fuel dn s m Q := h
theorem Is_GHR (h : GHR P N D wS OS mS w0 O ops L fuel dn s m Q k) : GHR P N D wS OS mS w0 O ops L fuel dn s m Q k := h
theorem G_nilH {ops' : Array Oper} (h : At N D w0 O .normal s m (NxH P D wS OS mS ops L fuel i dn Q)) : G none P N D w0 O ops' [] s m (NxH P D wS OS mS ops L fuel i dn Q) := G_nil h
theorem At_nxH [hb : RebT wS OS w0 O] [hm : SubM m mS] (h : GH P N D wS OS mS w0 O ops L fuel (i :: dn) s m Q) : At N D w0 O .normal s m (NxH P D wS OS mS ops L fuel i dn Q) := fun a w hs hd hw => by
  have h1 : St wS OS mS w := hm.ent.st (hb.h m w hw)
  exact ⟨rfl, hd, fun _ => h1, fun l hl => h l hl a w hs hd hw h1⟩
theorem At_nxL [hl : RegionR ops L] (hlast : lastA L i = true) (hr : allIn (i :: dn) L.length = true) (h : At N D w0 O .normal s m Q) : At N D w0 O .normal s m (NxH P D wS OS mS ops L fuel i dn Q) := fun a w hs hd hw => by
  refine ⟨rfl, hd, fun h1 => (by rw [hlast] at h1; cases h1), fun l hL => ?_⟩
  have hr' : Region.ready .any ops l = [] := by
    rw [hl.eq]
    refine List.eq_nil_iff_forall_not_mem.2 fun i hi => ?_
    have h3 := (ready_iff hL.1).1 hi
    exact h3.2.1 ((hL.2 i).2 (allIn_spec hr h3.1))
  cases fuel with
  | zero => exact ⟨hr', rfl, h a w hs hd hw⟩
  | succ n => exact ⟨fun _ => ⟨rfl, h a w hs hd hw⟩, fun i hi => by rw [hr'] at hi; cases hi⟩
theorem GH_done [hl : RegionR ops L] (hr : allIn dn L.length = true) (h : At N D w0 O .normal s m Q) : GH P N D wS OS mS w0 O ops L fuel dn s m Q := fun l hL a w hs hd hm _ => by
  have hr' : Region.ready .any ops l = [] := by
    rw [hl.eq]
    refine List.eq_nil_iff_forall_not_mem.2 fun i hi => ?_
    have h3 := (ready_iff hL.1).1 hi
    exact h3.2.1 ((hL.2 i).2 (allIn_spec hr h3.1))
  cases fuel with
  | zero => exact ⟨hr', rfl, h a w hs hd hm⟩
  | succ n => exact ⟨fun _ => ⟨rfl, h a w hs hd hm⟩, fun i hi => by rw [hr'] at hi; cases hi⟩
theorem GHR_end (h : Nat.ble L.length k = true) : GHR P N D wS OS mS w0 O ops L fuel dn s m Q k := fun i h1 h2 => by
  have := Nat.le_of_ble_eq_true h; omega
theorem GHR_skip (h : notYet L dn k = true) (hr : GHR P N D wS OS mS w0 O ops L fuel dn s m Q (k + 1)) : GHR P N D wS OS mS w0 O ops L fuel dn s m Q k := fun i h1 h2 => by
  by_cases e : i = k
  · subst e; exact .inl h
  · exact hr i (by omega) h2
theorem GHR_do {o : Oper} (ho : L[k]? = some o) (hp : plainOp o.op = true) (h : G none P N D w0 O ops [o] s m (NxH P D wS OS mS ops L fuel k dn Q)) (hr : GHR P N D wS OS mS w0 O ops L fuel dn s m Q (k + 1)) :
    GHR P N D wS OS mS w0 O ops L fuel dn s m Q k := fun i h1 h2 => by
  by_cases e : i = k
  · subst e; exact .inr ⟨o, ho, hp, h⟩
  · exact hr i (by omega) h2
theorem GH_ready [hl : RegionR ops L] (hne : someYet L dn L.length = true) (h : GHR P N D wS OS mS w0 O ops L fuel dn s m Q 0) : GH P N D wS OS mS w0 O ops L (fuel + 1) dn s m Q := fun l hL a w hs hd hm _ => by
  refine ⟨fun h0 => ?_, fun i hi => ?_⟩
  · obtain ⟨i, h1, h2⟩ := someYet_spec hne
    have := (ready_iff (i := i) hL.1).2 ⟨h1, (notYet_false hL).1 h2⟩
    rw [hl.eq] at h0
    rw [h0] at this
    cases this
  · rw [hl.eq] at hi
    have h3 := (ready_iff hL.1).1 hi
    rcases h i (Nat.zero_le _) h3.1 with h4 | ⟨o, ho, hp, hg⟩
    · have := (notYet_false hL).2 h3.2
      rw [h4] at this; cases this
    · exact step_congr (a' := a) (Q1 := NxH P D wS OS mS ops L fuel i dn Q) (by rw [hl.eq]; simpa using ho) hp rfl (fun _ _ => rfl) (fun e b u hq => ⟨hq.1, hq.2.1.trans hd.symm⟩) (hg a w hs hd hm) (fun v w' hq => ⟨hq.2.2.1, hq.2.2.2 _ (hL.set h3.1)⟩)
/-- the region drawH of id whose first operation stands at p -/
class DrawH (p : String) (id : Nat) : Prop where
  ok : True
theorem GC_drawH {id n : Nat} {d : Option Nat} {o : Op} {ty : TypeId} {p : String} {af : Array Edge} {g : Option (Nat × Bool)} {r : List Oper} [hx : MixedR P] [hi : DrawH p id] [hn : LenN r n]
    (h0 : ∀ (ops : Array Oper) [RegionR ops (⟨d, o, ty, p, af, g⟩ :: r)], GH P N D w0 O m w0 O ops (⟨d, o, ty, p, af, g⟩ :: r) (n + 1) [] s m Q) :
    GC none P N D w0 O (.region id (⟨d, o, ty, p, af, g⟩ :: r).toArray true) s m Q := fun a w hs hd hm => by
  refine wpIn_region_any hx.ok ?_
  have hn := hn.eq
  subst hn
  have e : (⟨d, o, ty, p, af, g⟩ :: r : List Oper).toArray.size = r.length + 1 := by simp
  have h1 := @h0 (⟨d, o, ty, p, af, g⟩ :: r).toArray ⟨rfl⟩ (Array.replicate (r.length + 1) false) ⟨by simp, fun i => by
    unfold Lst
    by_cases h : i < r.length + 1
    · simp [Array.getD, h]
    · simp [Array.getD, h]⟩ a _ hs hd hm.drew hm.drew
  rw [e]; exact wpAnyS_monoQ (fun e a w h => h.2) h1
/-- an operation that may come now, whose value hangs on what holds all along, is taken first -/
theorem GH_take {op : Op} {v : Value} {d : Nat} {ty : TypeId} {p : String} {af : Array Edge} [hl : RegionR ops L] (i : Nat) (ho : L[i]? = some ⟨some d, op, ty, p, af, none⟩) (hy : ∀ a w, Has N s a → St wS OS mS w → (execOp a.eval ⟨some d, op, ty, p, af, none⟩).run P w = .ok (.value v) w) (hab : ∀ w (ρ : Operand → Value), Oper.about P w ρ ⟨some d, op, ty, p, af, none⟩ = none) (hN : Nat.blt d N = true)
    (hny : notYet L dn i = false) (hf : freeL L dn i L.length = true) (hsel : noSel L = true) (h : GH P N D wS OS mS w0 O ops L fuel (i :: dn) ((d, v) :: s) m Q) : GH P N D wS OS mS w0 O ops L (fuel + 1) dn s m Q := fun l hL a w hs hd hm hS => by
  have hi : i < L.length := (List.getElem?_eq_some_iff.1 ho).1
  have hoi : ops[i]? = some ⟨some d, op, ty, p, af, none⟩ := by rw [hl.eq]; simpa using ho
  refine wpAnyS_first (oi := ⟨some d, op, ty, p, af, none⟩) (v := v) rfl hoi (fun j o cs b hj hs' => ?_) (fun c a w hc => by cases hc.1) (fun j oj hj hji hla => ?_) fuel l a w (fun j oj hj hji hun hno => ?_) ?_ ?_ hS ?_
  · rw [hl.eq] at hj
    have hj' : L[j]? = some o := by simpa using hj
    have h1 := List.all_eq_true.1 hsel o (List.mem_of_getElem? hj')
    rw [hs'] at h1; cases h1
  · rw [hl.eq] at hj
    have hj' : L[j]? = some oj := by simpa using hj
    have h5 := lastGo_spec hla hi (Ne.symm hji)
    rw [predsAt, hj'] at h5
    simp only [predsOf, List.mem_map, List.mem_filter] at h5
    obtain ⟨e, ⟨he, hb⟩, hei⟩ := h5
    exact ⟨e, by simpa using he, hb, hei⟩
  · rw [hl.eq] at hj ⊢
    have hj' : L[j]? = some oj := by simpa using hj
    have hjl : j < L.length := (List.getElem?_eq_some_iff.1 hj').1
    refine freeL_spec hf hjl hji (fun hjd => ?_) (fun hp => ?_) _ _ ho hj'
    · have := (hL.2 j).2 hjd
      unfold Lst at this
      rw [Array.getD_eq_getD_getElem?] at this hun
      have hjs : j < l.size := by rw [hL.1]; exact hjl
      simp [hjs] at this hun
      rw [this] at hun; cases hun
    · rw [predsAt, hj'] at hp
      simp only [predsOf, List.mem_map, List.mem_filter] at hp
      obtain ⟨e, ⟨he, hb⟩, hei⟩ := hp
      exact hno e (by simpa using he) hb hei
  · rw [hl.eq]; exact (ready_iff hL.1).2 ⟨hi, (notYet_false hL).1 hny⟩
  · exact ⟨.inl ⟨by simp [Region.wanted], fun w' hw' => hy a w' hs hw'⟩, fun w => hab w _⟩
  · exact h (l.setIfInBounds i true) (hL.set hi) (a.put (some d) v) w (hs.put d v hN) (by simpa [Act.put] using hd) hm hS
def readB (o : Oper) : Bool := o.guard.isNone && o.dst.isSome && match o.op with
  | .move _ => true
  | .fieldAddr _ _ _ => true
  | .slice _ _ _ _ _ => true
  | .load _ _ => true
  | .call ⟨.builtin .len, _, _⟩ => true
  | .convert _ _ _ => true
  | .binOp _ _ _ _ _ => true
  | .unOp _ _ _ => true
  | .indexAddr _ _ _ => true
  | .extract _ _ => true
  | .field _ _ _ => true
  | _ => false
/-- the first operation that may come now and only reads -/
def firstRead (L : List Oper) (dn : List Nat) : Nat → Option Nat
  | 0 => none
  | n + 1 => match firstRead L dn n with
    | some i => some i
    | none => bif notYet L dn n then none else match L[n]? with
      | some o => bif readB o then some n else none
      | none => none
def takeB (L : List Oper) (dn : List Nat) (i : Nat) : Bool := !notYet L dn i && freeL L dn i L.length && noSel L
theorem GH_pick {i : Nat} (hi : firstRead L dn L.length = some i) (h : GHX i (GH P N D wS OS mS w0 O ops L fuel dn s m Q)) : GH P N D wS OS mS w0 O ops L fuel dn s m Q := by unfold GHX at h; exact h
section
variable {d : Nat} {ty : TypeId} {p : String} {af : Array Edge} [hl : RegionR ops L]
theorem HX_take {op : Op} {v : Value} (hb : takeB L dn i = true) (ho : L[i]? = some ⟨some d, op, ty, p, af, none⟩) (hy : ∀ a w, Has N s a → St wS OS mS w → (execOp a.eval ⟨some d, op, ty, p, af, none⟩).run P w = .ok (.value v) w) (hab : ∀ w (ρ : Operand → Value), Oper.about P w ρ ⟨some d, op, ty, p, af, none⟩ = none) (hN : Nat.blt d N = true)
    (h : GH P N D wS OS mS w0 O ops L fuel (i :: dn) ((d, v) :: s) m Q) : GHX i (GH P N D wS OS mS w0 O ops L (fuel + 1) dn s m Q) := by
  simp only [takeB, Bool.and_eq_true, Bool.not_eq_true'] at hb
  unfold GHX
  exact GH_take i ho hy hab hN hb.1.1 hb.1.2 hb.2 h
theorem HX_mv {x : Operand} {v : Value} (hb : takeB L dn i = true) (ho : L[i]? = some ⟨some d, .move x, ty, p, af, none⟩) (hx : ev s x = some v) (hN : Nat.blt d N = true)
    (h : GH P N D wS OS mS w0 O ops L fuel (i :: dn) ((d, v) :: s) m Q) : GHX i (GH P N D wS OS mS w0 O ops L (fuel + 1) dn s m Q) :=
  HX_take hb ho (fun a w hs _ => by simp [execOp, hs.ev hx]) (fun w ρ => by simp [Oper.about]) hN h
theorem HX_fa {x : Operand} {b o off fi : Nat} {t : TypeId} (hb : takeB L dn i = true) (ho : L[i]? = some ⟨some d, .fieldAddr t x fi, ty, p, af, none⟩) [hF : FieldOff P t fi off] (hx : ev s x = some (.pointer (some ⟨b, o, none⟩))) (hN : Nat.blt d N = true)
    (h : GH P N D wS OS mS w0 O ops L fuel (i :: dn) ((d, .pointer (some ⟨b, o + off, none⟩)) :: s) m Q) : GHX i (GH P N D wS OS mS w0 O ops L (fuel + 1) dn s m Q) :=
  HX_take hb ho (fun a w hs _ => by
    have h1 := run_fieldAt (P := P) (w := w) (t := t) (i := fi) (off := off) ⟨b, o, none⟩
    rw [addr_add] at h1
    simp [execOp, hs.ev hx, h1]) (fun w ρ => by simp [Oper.about]) hN h
theorem HX_fany {x : Operand} {off fi : Nat} {ad : Addr} {t : TypeId} (hb : takeB L dn i = true) (ho : L[i]? = some ⟨some d, .fieldAddr t x fi, ty, p, af, none⟩) [hF : FieldOff P t fi off] (hx : ev s x = some (.pointer (some ad))) (hN : Nat.blt d N = true)
    (h : GH P N D wS OS mS w0 O ops L fuel (i :: dn) ((d, .pointer (some (ad.add off))) :: s) m Q) : GHX i (GH P N D wS OS mS w0 O ops L (fuel + 1) dn s m Q) :=
  HX_take hb ho (fun a w hs _ => by
    have h1 := run_fieldAt (P := P) (w := w) (t := t) (i := fi) (off := off) ad
    simp [execOp, hs.ev hx, h1]) (fun w ρ => by simp [Oper.about]) hN h
theorem HX_ldR {t : TypeId} {x : Operand} {ad : Addr} {r : Value} (hb : takeB L dn i = true) (ho : L[i]? = some ⟨some d, .load t x, ty, p, af, none⟩) (hx : ev s x = some (.pointer (some ad))) (hN : Nat.blt d N = true) [hr : LdR P wS OS mS t ad r]
    (h : GH P N D wS OS mS w0 O ops L fuel (i :: dn) ((d, r) :: s) m Q) : GHX i (GH P N D wS OS mS w0 O ops L (fuel + 1) dn s m Q) :=
  HX_take hb ho (fun a w hs hw => by simp [execOp, hs.ev hx, hr.ld w hw]) (fun w ρ => by simp [Oper.about]) hN h
theorem HX_ldB {t e : TypeId} {z v : Value} {x : Operand} {b off : Nat} {cs : List Value} {mk : Nat × Nat} [hS : Sc P t z] (hb : takeB L dn i = true) (ho : L[i]? = some ⟨some d, .load t x, ty, p, af, none⟩) (hx : ev s x = some (.pointer (some ⟨b, off, none⟩))) [hm : Held b mS (.cells cs.toArray e mk)] (hc : nthV cs off = some v) (hN : Nat.blt d N = true)
    (h : GH P N D wS OS mS w0 O ops L fuel (i :: dn) ((d, v) :: s) m Q) : GHX i (GH P N D wS OS mS w0 O ops L (fuel + 1) dn s m Q) :=
  HX_take hb ho (fun a w hs hw => by
    have h1 : w.heap[b]? = some (.cells cs.toArray e mk) := hw.ok _ hm.mem
    have h2 : w.cell? ⟨b, off, none⟩ = some v := by rw [nthV_eq] at hc; simp [World.cell?, h1, hc]
    simp [execOp, hs.ev hx, run_load1 hS h2]) (fun w ρ => by simp [Oper.about]) hN h
theorem HX_ldA {t e : TypeId} {zs cs vs : List Value} {x : Operand} {b off : Nat} {mk : Nat × Nat} [hS : Ag P t zs] (hb : takeB L dn i = true) (ho : L[i]? = some ⟨some d, .load t x, ty, p, af, none⟩) (hx : ev s x = some (.pointer (some ⟨b, off, none⟩))) [hm : Held b mS (.cells cs.toArray e mk)] (hN : Nat.blt d N = true)
    (h : GH P N D wS OS mS w0 O ops L fuel (i :: dn) ((d, .agg vs.toArray) :: s) m Q) (hv : (cs.drop off).take zs.length = vs := by (simp only [Nat.zero_add, Nat.add_zero, List.drop_succ_cons, List.drop_zero, List.take_succ_cons, List.take_zero, List.length_cons, List.length_nil, Nat.reduceAdd]; try exact rfl)) (hl : Nat.beq vs.length zs.length = true := by rfl) : GHX i (GH P N D wS OS mS w0 O ops L (fuel + 1) dn s m Q) :=
  HX_take hb ho (fun a w hs hw => by
    have h1 : w.heap[b]? = some (.cells cs.toArray e mk) := hw.ok _ hm.mem
    have hl' : vs.length = zs.length := Nat.eq_of_beq_eq_true hl
    have := run_loadA (P := P) (w := w) (a := ⟨b, off, none⟩) hS hl' (fun j v hj => by
      subst hv
      rw [List.getElem?_take] at hj
      split at hj
      · rw [List.getElem?_drop] at hj
        rw [addr_add]
        simp only [World.cell?, h1]
        simpa using hj
      · cases hj)
    simp [execOp, hs.ev hx, this]) (fun w ρ => by simp [Oper.about]) hN h
theorem HX_bin {op : BinOp} {t t' : TypeId} {x y : Operand} {u v r : Value} {side : Prop} (hb : takeB L dn i = true) (ho : L[i]? = some ⟨some d, .binOp op t x y t', ty, p, af, none⟩) (hx : ev s x = some u) (hy : ev s y = some v) (hN : Nat.blt d N = true) [hr : BinR P op t u v side r]
    (h : GH P N D wS OS mS w0 O ops L fuel (i :: dn) ((d, r) :: s) m Q) (hs : side := by first | exact trivial | omega | (simp only [true_and, and_true, and_self]; omega) | exact ⟨trivial, rfl⟩ | exact ⟨rfl, rfl, by decide⟩ | rfl | (simp only [true_and, and_true, and_self]; done) | decide | assumption | exact ⟨by assumption, by omega⟩ | exact ⟨by assumption, by assumption⟩ | exact ⟨by assumption, by assumption, by omega⟩) : GHX i (GH P N D wS OS mS w0 O ops L (fuel + 1) dn s m Q) :=
  HX_take hb ho (fun a w hs' hw => by simp only [execOp, hs'.ev hx, hs'.ev hy, Sem.run_bind, hr.grd _ _ w, Result.andThen, hr.ok hs w, Sem.run_pure]) (fun w ρ => by simp [Oper.about]) hN h
theorem HX_conv {t t' : TypeId} {x : Operand} {u r : Value} {side : Prop} (hb : takeB L dn i = true) (ho : L[i]? = some ⟨some d, .convert t t' x, ty, p, af, none⟩) (hx : ev s x = some u) (hN : Nat.blt d N = true) [hr : ConvR P t t' u side r]
    (h : GH P N D wS OS mS w0 O ops L fuel (i :: dn) ((d, r) :: s) m Q) (hs : side := by first | exact trivial | omega | (simp only [true_and, and_true, and_self]; omega) | exact ⟨trivial, rfl⟩ | exact ⟨rfl, rfl, by decide⟩ | rfl | (simp only [true_and, and_true, and_self]; done) | decide | assumption | exact ⟨by assumption, by omega⟩ | exact ⟨by assumption, by assumption⟩ | exact ⟨by assumption, by assumption, by omega⟩) : GHX i (GH P N D wS OS mS w0 O ops L (fuel + 1) dn s m Q) :=
  HX_take hb ho (fun a w hs' hw => by simp [execOp, hs'.ev hx, hr.ok hs w]) (fun w ρ => by simp [Oper.about]) hN h
theorem HX_not {t : TypeId} {x : Operand} {u r : Value} (hb : takeB L dn i = true) (ho : L[i]? = some ⟨some d, .unOp .not t x, ty, p, af, none⟩) (hx : ev s x = some u) (hN : Nat.blt d N = true) [hr : NotR u r]
    (h : GH P N D wS OS mS w0 O ops L fuel (i :: dn) ((d, r) :: s) m Q) : GHX i (GH P N D wS OS mS w0 O ops L (fuel + 1) dn s m Q) := by
  obtain ⟨b, rfl, rfl⟩ := hr.ok
  exact HX_take hb ho (fun a w hs' hw => by simp [execOp, hs'.ev hx, Op.unary]) (fun w ρ => by simp [Oper.about]) hN h
theorem HX_ext {x : Operand} {j : Nat} {vs : List Value} {v : Value} (hb : takeB L dn i = true) (ho : L[i]? = some ⟨some d, .extract x j, ty, p, af, none⟩) (hx : ev s x = some (.tuple vs.toArray)) (hi : nthV vs j = some v) (hN : Nat.blt d N = true)
    (h : GH P N D wS OS mS w0 O ops L fuel (i :: dn) ((d, v) :: s) m Q) : GHX i (GH P N D wS OS mS w0 O ops L (fuel + 1) dn s m Q) :=
  HX_take hb ho (fun a w hs' hw => by rw [nthV_eq] at hi; simp [execOp, hs'.ev hx, Instr.extract, hi]) (fun w ρ => by simp [Oper.about]) hN h
theorem HX_field {t : TypeId} {j off ft : Nat} {z v : Value} {vs : List Value} {x : Operand} [hf : FldI P t j off ft] [hS : Sc P ft z] (hb : takeB L dn i = true) (ho : L[i]? = some ⟨some d, .field t x j, ty, p, af, none⟩) (hx : ev s x = some (.agg vs.toArray)) (hv : nthV vs off = some v) (hN : Nat.blt d N = true)
    (h : GH P N D wS OS mS w0 O ops L fuel (i :: dn) ((d, v) :: s) m Q) : GHX i (GH P N D wS OS mS w0 O ops L (fuel + 1) dn s m Q) :=
  HX_take hb ho (fun a w hs' hw => by
    have h1 : (Instr.field t (.agg vs.toArray) j).run P w = .ok v w := run_field (by rw [nthV_eq] at hv; simp [part, run_isAgg hS, hv])
    simp [execOp, hs'.ev hx, h1]) (fun w ρ => by simp [Oper.about]) hN h
section
variable {α : Type} [Elt α] {t e : TypeId} {x y z : Operand} {v : Value} {xs : List α} {i1 i2 : Int} {lo hi : Nat} {sd sd' : Prop}
theorem HX_len (hb : takeB L dn i = true) (ho : L[i]? = some ⟨some d, .call ⟨.builtin .len, #[x], #[t]⟩, ty, p, af, none⟩) [ht : Und P t (.slice e)] [hL : Lay P e α] (hx : ev s x = some v) (hN : Nat.blt d N = true) [hr : RdR wS OS mS v xs]
    (h : GH P N D wS OS mS w0 O ops L fuel (i :: dn) ((d, I xs.length) :: s) m Q) : GHX i (GH P N D wS OS mS w0 O ops L (fuel + 1) dn s m Q) :=
  HX_take hb ho (fun a w hs' hw => by
    obtain ⟨A, c, rfl, _⟩ := (hr.rd w hw).form
    simp [execOp, resolve, invoke, builtin, Builtin.len_, hs'.ev hx, run_underlying ht.eq, goInt, I]) (fun w ρ => by simp [Oper.about, resolve, Target.leads]) hN h
theorem HX_idx {kx : IntKind} {j : Nat} (hb : takeB L dn i = true) (ho : L[i]? = some ⟨some d, .indexAddr t x y, ty, p, af, none⟩) [ht : Und P t (.slice e)] [hL : Lay P e α] (hx : ev s x = some v) (hy : ev s y = some (.int kx i1)) (hN : Nat.blt d N = true) [hr : RdR wS OS mS v xs] [hj : NatR i1 j sd]
    (k : [Fct (j < xs.length)] → GH P N D wS OS mS w0 O ops L fuel (i :: dn) ((d, .pointer (some (elP α v j))) :: s) m Q) (hs : sd ∧ j < xs.length := by first | exact trivial | omega | (simp only [true_and, and_true, and_self]; omega) | exact ⟨trivial, rfl⟩ | exact ⟨rfl, rfl, by decide⟩ | rfl | (simp only [true_and, and_true, and_self]; done) | decide | assumption | exact ⟨by assumption, by omega⟩ | exact ⟨by assumption, by assumption⟩ | exact ⟨by assumption, by assumption, by omega⟩) : GHX i (GH P N D wS OS mS w0 O ops L (fuel + 1) dn s m Q) :=
  HX_take hb ho (fun a w hs' hw => by
    obtain ⟨A, c, rfl, h1, h2, h3⟩ := (hr.rd w hw).form
    obtain ⟨ad, rfl, _⟩ := h3 (by omega)
    have e1 := hj.eq hs.1
    subst e1
    have hjn : (j : Int) < (xs.length : Int) := by omega
    have hj0 : (0 : Int) ≤ (j : Int) := by omega
    simp only [execOp, Instr.indexAt, hs'.ev hx, hs'.ev hy, asIntOf, run_underlying ht.eq, hL.size, Sem.run_bind, Sem.run_pure, Result.andThen, hjn, hj0, and_self, if_true, Int.toNat_natCast, elP, elA]) (fun w ρ => by simp [Oper.about]) hN (@k ⟨hs.2⟩)
theorem HX_cutLo (hb : takeB L dn i = true) (ho : L[i]? = some ⟨some d, .slice t x (some y) none none, ty, p, af, none⟩) [ht : Und P t (.slice e)] [hL : Lay P e α] (hx : ev s x = some v) (hy : ev s y = some (I i1)) (hN : Nat.blt d N = true) [h : RdR wS OS mS v xs] [hn : NatR i1 lo sd]
    (k : [Fct (lo ≤ xs.length ∧ xs.length ≤ xs.length)] → GH P N D wS OS mS w0 O ops L fuel (i :: dn) ((d, cut α v lo xs.length) :: s) m Q) (hs : sd ∧ lo ≤ xs.length := by first | exact trivial | omega | (simp only [true_and, and_true, and_self]; omega) | exact ⟨trivial, rfl⟩ | exact ⟨rfl, rfl, by decide⟩ | rfl | (simp only [true_and, and_true, and_self]; done) | decide | assumption | exact ⟨by assumption, by omega⟩ | exact ⟨by assumption, by assumption⟩ | exact ⟨by assumption, by assumption, by omega⟩) : GHX i (GH P N D wS OS mS w0 O ops L (fuel + 1) dn s m Q) :=
  HX_take hb ho (fun a w hs' hm => run_cutR hx (.inl ⟨y, i1, sd, rfl, hy, hn, hs.1⟩) (.inr ⟨rfl, rfl⟩) ⟨hs.2, Nat.le_refl _⟩ hs' (h.rd w hm) w) (fun w ρ => by simp [Oper.about]) hN (@k ⟨hs.2, Nat.le_refl _⟩)
theorem HX_cutHi (hb : takeB L dn i = true) (ho : L[i]? = some ⟨some d, .slice t x none (some y) none, ty, p, af, none⟩) [ht : Und P t (.slice e)] [hL : Lay P e α] (hx : ev s x = some v) (hy : ev s y = some (I i1)) (hN : Nat.blt d N = true) [h : RdR wS OS mS v xs] [hn : NatR i1 hi sd]
    (k : [Fct (0 ≤ hi ∧ hi ≤ xs.length)] → GH P N D wS OS mS w0 O ops L fuel (i :: dn) ((d, cut α v 0 hi) :: s) m Q) (hs : sd ∧ hi ≤ xs.length := by first | exact trivial | omega | (simp only [true_and, and_true, and_self]; omega) | exact ⟨trivial, rfl⟩ | exact ⟨rfl, rfl, by decide⟩ | rfl | (simp only [true_and, and_true, and_self]; done) | decide | assumption | exact ⟨by assumption, by omega⟩ | exact ⟨by assumption, by assumption⟩ | exact ⟨by assumption, by assumption, by omega⟩) : GHX i (GH P N D wS OS mS w0 O ops L (fuel + 1) dn s m Q) :=
  HX_take hb ho (fun a w hs' hm => run_cutR hx (.inr ⟨rfl, rfl⟩) (.inl ⟨y, i1, sd, rfl, hy, hn, hs.1⟩) ⟨Nat.zero_le _, hs.2⟩ hs' (h.rd w hm) w) (fun w ρ => by simp [Oper.about]) hN (@k ⟨Nat.zero_le _, hs.2⟩)
theorem HX_cutBoth (hb : takeB L dn i = true) (ho : L[i]? = some ⟨some d, .slice t x (some y) (some z) none, ty, p, af, none⟩) [ht : Und P t (.slice e)] [hL : Lay P e α] (hx : ev s x = some v) (hy : ev s y = some (I i1)) (hz : ev s z = some (I i2)) (hN : Nat.blt d N = true) [h : RdR wS OS mS v xs] [hn : NatR i1 lo sd] [hn' : NatR i2 hi sd']
    (k : [Fct (lo ≤ hi ∧ hi ≤ xs.length)] → GH P N D wS OS mS w0 O ops L fuel (i :: dn) ((d, cut α v lo hi) :: s) m Q) (hs : (sd ∧ sd') ∧ lo ≤ hi ∧ hi ≤ xs.length := by first | exact trivial | omega | (simp only [true_and, and_true, and_self]; omega) | exact ⟨trivial, rfl⟩ | exact ⟨rfl, rfl, by decide⟩ | rfl | (simp only [true_and, and_true, and_self]; done) | decide | assumption | exact ⟨by assumption, by omega⟩ | exact ⟨by assumption, by assumption⟩ | exact ⟨by assumption, by assumption, by omega⟩) : GHX i (GH P N D wS OS mS w0 O ops L (fuel + 1) dn s m Q) :=
  HX_take hb ho (fun a w hs' hm => run_cutR hx (.inl ⟨y, i1, sd, rfl, hy, hn, hs.1.1⟩) (.inl ⟨z, i2, sd', rfl, hz, hn', hs.1.2⟩) hs.2 hs' (h.rd w hm) w) (fun w ρ => by simp [Oper.about]) hN (@k ⟨hs.2⟩)
end
end
end
end Go.Proofs.Ytnncjfphdcfimaa
/- Panics: calls that panic, the text's own panics, deferred calls, recover, type assertions. -/
set_option linter.unusedVariables false
set_option linter.unusedSimpArgs false
namespace Go.Proofs.Ytnncjfphdcfimaa
open Go.RowKit

/-- a type that is no interface -/
class Plain (P : Program) (t : TypeId) : Prop where
  eq : ∃ u, P.underlying t = some u ∧ ∀ ms, u ≠ .interface ms
/-- a panic that nobody has recovered yet -/
def chn (v : Value) : List PanicEntry := [{ v, recovered := false }]
/-- The call panics with v and leaves M held. -/
class CallX (P : Program) (w0 : World) (O : List Nat) (m : List As) (f : FuncId) (args : List Value) (side : outParam Prop) (v : outParam Value) (M : outParam (List As)) : Prop where
  call : side → ∀ w, St w0 O m w → Calls P f args.toArray w (fun e w' => e = .panicked (chn v) ∧ St w0 O M w')
section
variable {ro : Option Nat} {P : Program} {N : Nat} {D : List Deferred} {w0 : World} {O : List Nat} {ops : Array Oper} {l : List Oper} {s : List (Nat × Value)} {m : List As} {Q : Exit → Act → World → Prop}
variable {d : Nat} {ty : TypeId} {pos : String} {af : Array Edge}

theorem G_callX {f : FuncId} {args : Array Operand} {at_ : Array TypeId} {x : Operand} {first cap vals r1 all : List Value} {side : Prop} {v : Value} {M : List As}
    [he : En P f] (hf : ev s x = some (.func (.func f) first.toArray cap.toArray)) (ha : evs s args.toList = some vals) (hN : Nat.blt d N = true) [e1 : AppL first vals r1] [e2 : AppL r1 cap all]
    [hc : CallX P w0 O m f all side v M] (k : At N D w0 O (.panic (chn v)) s M Q) (hsd : side := by first | exact trivial | omega | (simp only [true_and, and_true, and_self]; omega) | exact ⟨trivial, rfl⟩ | exact ⟨rfl, rfl, by decide⟩ | rfl | (simp only [true_and, and_true, and_self]; done) | decide | assumption | exact ⟨by assumption, by omega⟩ | exact ⟨by assumption, by assumption⟩ | exact ⟨by assumption, by assumption, by omega⟩ | (with_reducible refine And.intro ?_ ?_ <;> first | exact True.intro | omega | assumption | (with_reducible refine And.intro ?_ ?_ <;> first | exact True.intro | omega | assumption | (with_reducible refine And.intro ?_ ?_ <;> first | exact True.intro | omega | assumption)))) :
    G ro P N D w0 O ops (⟨some d, .call ⟨.value x, args, at_⟩, ty, pos, af, none⟩ :: l) s m Q := fun a w hs hdf hm => by
  obtain rfl := e1.eq
  obtain rfl := e2.eq
  have h1 : args.map a.eval = vals.toArray := by rw [← evs_map hs ha]; apply Array.ext'; simp
  simp only [wpL, Region.wanted, if_true]
  refine ⟨fun _ _ => trivial, ?_⟩
  rw [Oper.semAt_eq _ _ _ (by simp)]
  have hrun : (execOp a.eval ⟨some d, .call ⟨.value x, args, at_⟩, ty, pos, af, none⟩).run P w = .ok (.enter f (first ++ vals ++ cap).toArray) w := by
    have h2 := he.run (first ++ vals ++ cap).toArray w
    have e3 : first.toArray ++ vals.toArray ++ cap.toArray = (first ++ vals ++ cap).toArray := by simp
    simp only [execOp, resolve, hs.ev hf, Deferred.ofValue, h1, Sem.run_bind, Sem.run_pure, Result.andThen, invoke, e3, h2]
  rw [hrun, Oper.uponIn_enter]
  refine ⟨fun h => by simp [FW] at h, callsFW ((hc.call hsd w hm).mono ?_)⟩
  rintro e w' ⟨rfl, hst⟩
  exact k _ _ hs hdf hst
theorem At_then_panic {y : Code} {c : List PanicEntry} (h : At N D w0 O (.panic c) s m Q) : At N D w0 O (.panic c) s m (Th ro P y Q) := h
theorem At_block_panic {id : Nat} {c : List PanicEntry} (h : At N D w0 O (.panic c) s m Q) : At N D w0 O (.panic c) s m (Exit.inBlock id Q) := h
theorem At_roundS_panic {X : Type} {Φ : X → Prop} {ex : X → List (Nat × Value) → List (Nat × Value)} {s0 : List (Nat × Value)} {mx : X → List As → List As} {mk : List As} {μ : X → Nat} {b : Nat} {wa : World} {Oa : List Nat} {c : List PanicEntry} (h : At N D w0 O (.panic c) s m Q) :
    At N D w0 O (.panic c) s m (RoundS N D wa Oa Φ ex s0 mx mk μ b Q) := h
theorem At_roundD_panic {X : Type} {Φ : World → List Nat → X → Prop} {ex : X → List (Nat × Value) → List (Nat × Value)} {s0 : List (Nat × Value)} {mx : X → List As → List As} {mk : List As} {μ : X → Nat} {b : Nat} {wa : World} {Oa : List Nat} {c : List PanicEntry} (h : At N D w0 O (.panic c) s m Q) :
    At N D w0 O (.panic c) s m (RoundD N D wa Oa Φ ex s0 mx mk μ b Q) := h
/-- the end of a function that panics -/
theorem panic_ {fn : Func} {R : Ending → World → Prop} {c : List PanicEntry} (h : ∀ w, St w0 O m w → R (.panicked c) w) : At N [] w0 O (.panic c) s m (bodyPost P fn R) := fun a w hs hd hw => ⟨hd, h w hw⟩
/-- the text's own panic -/
theorem G_panic {x : Operand} {T : TypeId} {v : Value} {dst : Option Nat} (hx : ev s x = some (.iface T v)) (k : At N D w0 O (.panic (chn (.iface T v))) s m Q) : G ro P N D w0 O ops (⟨dst, .panic x, ty, pos, af, none⟩ :: l) s m Q := fun a w hs hdf hm => by
  simp only [wpL, Region.wanted, if_true]
  refine ⟨fun _ _ => trivial, ?_⟩
  rw [Oper.semAt_eq _ _ _ (by simp)]
  have hrun : (execOp a.eval ⟨dst, .panic x, ty, pos, af, none⟩).run P w = .halt (.panic (.iface T v)) w := by
    simp only [execOp, hs.ev hx, Sem.run_bind, run_panic_iface, Result.andThen]
  rw [hrun]
  exact k a w hs hdf hm
theorem G_mkIface {t : TypeId} {x : Operand} {v : Value} [hp : Plain P t] (hx : ev s x = some v) (hN : Nat.blt d N = true) (k : G ro P N D w0 O ops l ((d, .iface t v) :: s) m Q) :
    G ro P N D w0 O ops (⟨some d, .makeInterface t x, ty, pos, af, none⟩ :: l) s m Q :=
  G_val _ rfl rfl (by simp) hN (fun a w hs hm => by
    obtain ⟨u, hu, hn⟩ := hp.eq
    cases u <;> first
      | exact absurd rfl (hn _)
      | simp [execOp, Instr.makeInterface, hs.ev hx, run_underlying hu]) k
/-- x.(T) of a plain type, with ok -/
theorem G_assertT {x : Operand} {tx T : TypeId} {v : Value} [hp : Plain P T] (hx : ev s x = some (.iface T v)) (hN : Nat.blt d N = true) (k : G ro P N D w0 O ops l ((d, .tuple [v, .bool true].toArray) :: s) m Q) :
    G ro P N D w0 O ops (⟨some d, .typeAssert x tx T true, ty, pos, af, none⟩ :: l) s m Q :=
  G_val _ rfl rfl (by simp) hN (fun a w hs hm => by
    obtain ⟨u, hu, hn⟩ := hp.eq
    cases u <;> first
      | exact absurd rfl (hn _)
      | simp [execOp, Instr.typeAssert, hs.ev hx, run_underlying hu]) k
class IfaceT (P : Program) (t : TypeId) : Prop where
  eq : P.underlying t = some (.interface (P.methodsAt t))
/-- an interface's value beside nil -/
theorem G_isNilT {t t' : TypeId} {x : Operand} [h : IfaceT P t] (hx : ev s x = some .nilIface) (hN : Nat.blt d N = true) (k : G ro P N D w0 O ops l ((d, .bool true) :: s) m Q) :
    G ro P N D w0 O ops (⟨some d, .binOp .eql t x (.const .nilIface) t', ty, pos, af, none⟩ :: l) s m Q :=
  G_bin_any (.bool true) hx rfl hN (fun w => by simp [eqGuard]) (fun w => by simp [binOp, run_equal_nil_nil w t h.eq]) k
theorem G_isNilF {t t' u : TypeId} {v : Value} {x : Operand} [h : IfaceT P t] (hx : ev s x = some (.iface u v)) (hN : Nat.blt d N = true) (k : G ro P N D w0 O ops l ((d, .bool false) :: s) m Q) :
    G ro P N D w0 O ops (⟨some d, .binOp .eql t x (.const .nilIface) t', ty, pos, af, none⟩ :: l) s m Q :=
  G_bin_any (.bool false) hx rfl hN (fun w => by simp [eqGuard]) (fun w => by simp [binOp, run_equal_held_nil w t u v h.eq]) k
/-- a deferred call is laid by -/
theorem G_defer {x : Operand} {args : Array Operand} {at_ : Array TypeId} {f : FuncId} {first cap vals : List Value} (hf : ev s x = some (.func (.func f) first.toArray cap.toArray)) (ha : evs s args.toList = some vals)
    (k : G none P N ({ target := .fn (.func f) cap.toArray, args := (first ++ vals).toArray } :: D) w0 O ops l s m Q) : G none P N D w0 O ops (⟨none, .defer ⟨.value x, args, at_⟩, ty, pos, af, none⟩ :: l) s m Q := fun a w hs hdf hm => by
  have h1 : args.map a.eval = vals.toArray := by rw [← evs_map hs ha]; apply Array.ext'; simp
  simp only [wpL, Region.wanted, if_true]
  refine ⟨fun _ _ => trivial, ?_⟩
  have hrun : (Oper.semAt (FW none).round a.eval ⟨none, .defer ⟨.value x, args, at_⟩, ty, pos, af, none⟩).run P w = .ok (.defer { target := .fn (.func f) cap.toArray, args := (first ++ vals).toArray }) w := by
    have e3 : first.toArray ++ vals.toArray = (first ++ vals).toArray := by simp
    show (Oper.semAt none a.eval _).run P w = _
    rw [Oper.semAt_none]
    simp only [execOp, resolve, hs.ev hf, Deferred.ofValue, h1, Sem.run_bind, Sem.run_pure, Result.andThen, e3]
  rw [hrun]
  exact k _ w ⟨hs.size, hs.at_⟩ (by simp [Act.put, hdf]) hm
end

/-! ### Deferred calls at a function's end -/
section
variable {P : Program} {N : Nat} {D : List Deferred} {w0 : World} {O : List Nat} {s : List (Nat × Value)} {m : List As}
/-- into a function that defers -/
theorem enterDF {f : FuncId} {fn : Func} {c : Code} {args : List Value} {w : World} {R : Ending → World → Prop}
    (hf : P.funcs[f]? = some fn) (hb : fn.body = some c) (hN : args.length + (fn.ntmps - args.length) = N) (hs : slots args 0 = s) (hst : St w0 O m w)
    (h : GC none P N [] w0 O c s m (bodyPostDIn (FW none) 0 P fn R)) : Calls P f args.toArray w R :=
  callsFW' (callsIn_of_wp_defers hf hb trivial (h _ w (by
    subst hs
    have := has_slots (N := N) (args := args) (n := fn.ntmps) hN
    simpa using this) rfl hst))
/-- what a deferred closure does in the mode u: it goes over to u', and leaves m' -/
def DefC (P : Program) (f : FuncId) (args : List Value) (w0 : World) (O : List Nat) (m : List As) (u u' : FrameMode) (m' : List As) : Prop :=
  ∀ w, St w0 O m w → CallsDIn (FW none) 0 P f args.toArray u w (fun e v w' => (∃ r, e = .returned r) ∧ v = u' ∧ St w0 O m' w')
theorem leave1 {fn : Func} {R : Ending → World → Prop} {f : FuncId} {cap args : List Value} {u u' : FrameMode} {m' : List As} {rs : List ResultVar} {vs : List Value} {a : Act} {w : World} [he : En P f] (hu : u ≠ .run) (hc : DefC P f (args ++ cap) w0 O m u u' m') (hset : settle u' = .returning)
    (hr : fn.results = rs.toArray) (hv : ResAll P w0 O m' s rs vs) (h : ∀ w, St w0 O m' w → R (.returned (retV vs)) w) (hs : Has N s a) (hm : St w0 O m w) :
    LeavesIn (FW none) 0 P fn a.tmps R [{ target := .fn (.func f) cap.toArray, args := args.toArray }] u w := by
  refine ⟨hu, fun h => by simp [FW] at h, .func f, cap.toArray, f, (args ++ cap).toArray, rfl, ?_, fun _ _ => trivial, ?_⟩
  · have h2 := he.run (args ++ cap).toArray w
    simpa [invoke] using h2
  · have h1 := hc w hm
    refine ⟨h1.1, fun c cs hcu hroom => ?_⟩
    obtain ⟨e, u1, w', fr, ⟨⟨r, rfl⟩, rfl, hst⟩, h3⟩ := h1.2 c cs hcu hroom
    refine ⟨.returned r, u1, w', fr, ?_, h3⟩
    show LeavesIn (FW none) 0 P fn a.tmps R [] (settle u1) w'
    rw [hset]
    exact ⟨_, run_results hr hv hs hst, h w' hst⟩
theorem retD_ {fn : Func} {R : Ending → World → Prop} {f : FuncId} {cap args : List Value} {m' : List As} {rs : List ResultVar} {vs : List Value} [he : En P f] (hc : DefC P f (args ++ cap) w0 O m .returning .returning m')
    (hr : fn.results = rs.toArray) (hv : ResAll P w0 O m' s rs vs) (h : ∀ w, St w0 O m' w → R (.returned (retV vs)) w) : At N [{ target := .fn (.func f) cap.toArray, args := args.toArray }] w0 O .ret s m (bodyPostDIn (FW none) 0 P fn R) := fun a w hs hd hw => by
  show LeavesIn (FW none) 0 P fn a.tmps R a.defers .returning w
  rw [hd]
  exact leave1 (by simp) hc rfl hr hv h hs hw
theorem panicD_ {fn : Func} {R : Ending → World → Prop} {f : FuncId} {cap args : List Value} {u' : FrameMode} {ch : List PanicEntry} {m' : List As} {rs : List ResultVar} {vs : List Value} [he : En P f] (hc : DefC P f (args ++ cap) w0 O m (.panicking ch) u' m') (hset : settle u' = .returning)
    (hr : fn.results = rs.toArray) (hv : ResAll P w0 O m' s rs vs) (h : ∀ w, St w0 O m' w → R (.returned (retV vs)) w) : At N [{ target := .fn (.func f) cap.toArray, args := args.toArray }] w0 O (.panic ch) s m (bodyPostDIn (FW none) 0 P fn R) := fun a w hs hd hw => by
  show LeavesIn (FW none) 0 P fn a.tmps R a.defers (.panicking ch) w
  rw [hd]
  exact leave1 (by simp) hc hset hr hv h hs hw
/-- what recover hands back, and the mode that it leaves -/
def recM : FrameMode → Value × FrameMode
  | .panicking ({ v, recovered := false, goexit := false } :: older) => (v, .panicking ({ v, recovered := true } :: older))
  | u => (.nilIface, u)
theorem recoverD_recM {c : Frame} {cs : List Frame} {u : FrameMode} (hu : c.mode = u) : recoverD (c :: cs) = some ((recM u).1, { c with mode := (recM u).2 } :: cs) ∨ (recoverD (c :: cs) = none ∧ recM u = (.nilIface, u)) := by
  subst hu
  unfold recoverD recM
  simp only
  split <;> simp_all
/-- into a deferred closure that begins with recover -/
theorem enterR {f : FuncId} {fn : Func} {t id : Nat} {ty : TypeId} {pos : String} {af : Array Edge} {at_ : Array TypeId} {rest : Code} {args : List Value} {w : World} {u : FrameMode} {m' : List As} {R : Ending → FrameMode → World → Prop}
    (hf : P.funcs[f]? = some fn) (hb : fn.body = some (.seq (.region id #[⟨some t, .call ⟨.builtin .recover, #[], at_⟩, ty, pos, af, none⟩] false) rest)) (hN : args.length + (fn.ntmps - args.length) = N) (hs : slots args 0 = s) (htN : Nat.blt t N = true) (hst : St w0 O m w)
    (h : GC none P N [] w0 O rest ((t, (recM u).1) :: s) m (bodyPost P fn (fun e w' => R e (recM u).2 w'))) : CallsDIn (FW none) 0 P f args.toArray u w R := by
  refine callsDIn_of_wpSIn hf hb trivial fun c₀ cs hu => ?_
  have hs0 : Has N s ⟨args.toArray ++ Array.replicate (fn.ntmps - args.toArray.size) undef, []⟩ := by
    subst hs
    have := has_slots (N := N) (args := args) (n := fn.ntmps) hN
    simpa using this
  refine wpSIn_seq ?_
  refine wpSIn_region ?_
  have hrun : ∀ (ρ : Operand → Value), (execOp ρ ⟨some t, .call ⟨.builtin .recover, #[], at_⟩, ty, pos, af, none⟩).run P w = .ok .recover w := fun ρ => by
    simp [execOp, resolve, invoke, builtin]
  have hcont : ∀ (cs' : List Frame), cs' = { c₀ with mode := (recM u).2 } :: cs → rest.wpSIn (FW none) 0 P (bodyPostS P fn c₀ cs R) (Act.put ⟨args.toArray ++ Array.replicate (fn.ntmps - args.toArray.size) undef, []⟩ (some t) (recM u).1) cs' w := by
    rintro _ rfl
    refine wpSIn_of_wpIn rfl ?_
    refine Code.wpIn_mono ?_ (h _ w (hs0.put t _ htN) (by simp [Act.put]) hst)
    intro e a w' he
    cases e with
    | normal => obtain ⟨h1, v, h2, h3⟩ := he; exact ⟨h1, _, rfl, v, h2, h3⟩
    | ret => obtain ⟨h1, v, h2, h3⟩ := he; exact ⟨h1, _, rfl, v, h2, h3⟩
    | panic ch => exact ⟨he.1, _, rfl, he.2⟩
    | outgrown => exact ⟨_, he⟩
    | exit id => exact he.elim
    | goto l => exact he.elim
  have hlen : List.range (#[(⟨some t, .call ⟨.builtin .recover, #[], at_⟩, ty, pos, af, none⟩ : Oper)] : Array Oper).size = [0] := rfl
  rw [hlen]
  simp only [wpOpsSIn, List.getElem?_toArray, List.getElem?_cons_zero, Region.wanted, if_true, hrun]
  refine ⟨fun _ _ => trivial, ?_⟩
  rcases recoverD_recM (cs := cs) hu with h1 | ⟨h1, h2⟩
  · rw [h1]
    exact hcont _ rfl
  · rw [h1]
    have e1 : (recM u).1 = .nilIface := by rw [h2]
    have e2 : ({ c₀ with mode := (recM u).2 } : Frame) = c₀ := by rw [h2]; subst hu; rfl
    have h3 := hcont (c₀ :: cs) (by rw [e2])
    rw [e1] at h3
    exact h3
end
end Go.Proofs.Ytnncjfphdcfimaa
/- Strings. -/
set_option linter.unusedVariables false
set_option linter.unusedSimpArgs false
namespace Go.Proofs.Ytnncjfphdcfimaa
open Go.RowKit

/-! ### Bytes of a string -/
def bL (s : ByteArray) : List (BitVec 8) := s.data.toList.map UInt8.toBitVec
def ofL (l : List (BitVec 8)) : ByteArray := ⟨(l.map UInt8.ofBitVec).toArray⟩
theorem bL_ofL (l : List (BitVec 8)) : bL (ofL l) = l := by
  have : UInt8.toBitVec ∘ UInt8.ofBitVec = id := rfl
  simp [bL, ofL, this]
theorem ofL_bL (s : ByteArray) : ofL (bL s) = s := by
  have : UInt8.ofBitVec ∘ UInt8.toBitVec = id := rfl
  simp only [bL, ofL, List.map_map, this, List.map_id, Array.toArray_toList]
theorem bL_inj {a b : ByteArray} (h : bL a = bL b) : a = b := by rw [← ofL_bL a, h, ofL_bL]
theorem bL_iff {a b : ByteArray} : bL a = bL b ↔ a = b := ⟨bL_inj, fun h => by rw [h]⟩
theorem ofL_inj {a b : List (BitVec 8)} (h : ofL a = ofL b) : a = b := by rw [← bL_ofL a, h, bL_ofL]
theorem bL_length (s : ByteArray) : (bL s).length = s.size := by
  simp only [bL, List.length_map, Array.length_toList]; rfl
theorem bL_append (a b : ByteArray) : bL (a ++ b) = bL a ++ bL b := by
  simp only [bL, ByteArray.data_append, Array.toList_append, List.map_append]
theorem bL_extract (s : ByteArray) (i j : Nat) : bL (s.extract i j) = ((bL s).drop i).take (j - i) := by
  have h : s.extract i j = ByteArray.mk ((s.data.toList.drop i).take (j - i)).toArray := ByteArray.extract_mk s.data.toList i j
  rw [h]
  simp only [bL, List.map_take, List.map_drop]

/-- the fixed order of strings -/
def bLt : List (BitVec 8) → List (BitVec 8) → Bool
  | _, [] => false
  | [], _ :: _ => true
  | a :: x, b :: y => decide (a < b) || (a == b && bLt x y)
def ltS (a b : List (BitVec 8)) : Prop := bLt a b = true
instance (a b : List (BitVec 8)) : Decidable (ltS a b) := inferInstanceAs (Decidable (bLt a b = true))
theorem bytesLess_eq : ∀ (a b : List UInt8), Op.bytesLess a b = bLt (a.map UInt8.toBitVec) (b.map UInt8.toBitVec)
  | [], [] => rfl
  | _ :: _, [] => rfl
  | [], _ :: _ => rfl
  | a :: x, b :: y => by
    simp only [Op.bytesLess, List.map_cons, bLt, bytesLess_eq x y]
    have h1 : decide (a < b) = decide (a.toBitVec < b.toBitVec) := rfl
    have h2 : (a == b) = (a.toBitVec == b.toBitVec) := by
      rw [Bool.eq_iff_iff, beq_iff_eq, beq_iff_eq]
      exact ⟨fun h => by rw [h], fun h => UInt8.eq_of_toBitVec_eq h⟩
    rw [h1, h2]
theorem ltS_irr : ∀ (a : List (BitVec 8)), ¬ ltS a a
  | [] => by simp [ltS, bLt]
  | a :: x => by
    have := ltS_irr x
    simp only [ltS] at this
    simp [ltS, bLt, this]
theorem ltS_cons {a b : BitVec 8} {x y : List (BitVec 8)} : ltS (a :: x) (b :: y) ↔ a < b ∨ a = b ∧ ltS x y := by simp [ltS, bLt]
theorem ltS_nil {a : List (BitVec 8)} : ¬ ltS a [] := by cases a <;> simp [ltS, bLt]
theorem ltS_nil_cons {b : BitVec 8} {y : List (BitVec 8)} : ltS [] (b :: y) := by simp [ltS, bLt]
theorem ltS_tri : ∀ (a b : List (BitVec 8)), ltS a b ∨ a = b ∨ ltS b a
  | [], [] => .inr (.inl rfl)
  | [], _ :: _ => .inl ltS_nil_cons
  | _ :: _, [] => .inr (.inr ltS_nil_cons)
  | a :: x, b :: y => by
    rw [ltS_cons, ltS_cons]
    rcases ltS_tri x y with h | h | h
    · by_cases hab : a = b
      · exact .inl (.inr ⟨hab, h⟩)
      · rcases Nat.lt_or_gt_of_ne (fun h => hab (BitVec.eq_of_toNat_eq h)) with h1 | h1
        · exact .inl (.inl h1)
        · exact .inr (.inr (.inl h1))
    · subst h
      by_cases hab : a = b
      · exact .inr (.inl (by rw [hab]))
      · rcases Nat.lt_or_gt_of_ne (fun h => hab (BitVec.eq_of_toNat_eq h)) with h1 | h1
        · exact .inl (.inl h1)
        · exact .inr (.inr (.inl h1))
    · by_cases hab : a = b
      · exact .inr (.inr (.inr ⟨hab.symm, h⟩))
      · rcases Nat.lt_or_gt_of_ne (fun h => hab (BitVec.eq_of_toNat_eq h)) with h1 | h1
        · exact .inl (.inl h1)
        · exact .inr (.inr (.inl h1))
theorem ltS_asym : ∀ {a b : List (BitVec 8)}, ltS a b → ¬ ltS b a
  | [], [], h => absurd h ltS_nil
  | [], _ :: _, _ => ltS_nil
  | _ :: _, [], h => absurd h ltS_nil
  | a :: x, b :: y, h => by
    rw [ltS_cons] at h ⊢
    rcases h with h | ⟨rfl, h⟩
    · rintro (h1 | ⟨rfl, h1⟩)
      · exact absurd h1 (by have : a.toNat < b.toNat := h; intro h2; have : b.toNat < a.toNat := h2; omega)
      · have : b.toNat < b.toNat := h
        omega
    · rintro (h1 | ⟨_, h1⟩)
      · have : a.toNat < a.toNat := h1
        omega
      · exact ltS_asym h h1
theorem ltS_trans : ∀ {a b c : List (BitVec 8)}, ltS a b → ltS b c → ltS a c
  | _, [], _, h, _ => absurd h ltS_nil
  | _, _ :: _, [], _, h => absurd h ltS_nil
  | [], _ :: _, _ :: _, _, _ => ltS_nil_cons
  | a :: x, b :: y, c :: z, h, h' => by
    rw [ltS_cons] at h h' ⊢
    rcases h with h | ⟨rfl, h⟩
    · rcases h' with h' | ⟨rfl, h'⟩
      · have h1 : a.toNat < b.toNat := h
        have h2 : b.toNat < c.toNat := h'
        exact .inl (show a.toNat < c.toNat by omega)
      · exact .inl h
    · rcases h' with h' | ⟨rfl, h'⟩
      · exact .inl h'
      · exact .inr ⟨rfl, ltS_trans h h'⟩
theorem not_ltS {a b : List (BitVec 8)} : ¬ ltS a b ↔ ltS b a ∨ a = b := by
  constructor
  · intro h
    rcases ltS_tri a b with h1 | h1 | h1
    · exact absurd h1 h
    · exact .inr h1
    · exact .inl h1
  · rintro (h | rfl)
    · exact fun h1 => ltS_asym h h1
    · exact ltS_irr _

/-- a string's bytes, in short -/
class StrL (s : ByteArray) (l : outParam (List (BitVec 8))) : Prop where
  eq : bL s = l
class BytL (l : List UInt8) (r : outParam (List (BitVec 8))) : Prop where
  eq : l.map UInt8.toBitVec = r
instance bytL_nil : BytL [] [] := ⟨rfl⟩
instance bytL_cons {a : UInt8} {l : List UInt8} {r : List (BitVec 8)} [h : BytL l r] : BytL (a :: l) (a.toBitVec :: r) := ⟨by rw [List.map_cons, h.eq]⟩
instance (priority := low) strL_any (s : ByteArray) : StrL s (bL s) := ⟨rfl⟩
instance strL_of (l : List (BitVec 8)) : StrL (ofL l) l := ⟨bL_ofL l⟩
instance strL_lit {l : List UInt8} {r : List (BitVec 8)} [h : BytL l r] : StrL ⟨l.toArray⟩ r := ⟨by rw [← h.eq]; simp [bL]⟩

/-! ### Operations -/
theorem grd_str {P : Program} {op : BinOp} {t : TypeId} {a b : ByteArray} : ∀ x y w, (eqGuard op t x y (.string a) (.string b)).run P w = .ok () w := fun x y w => by
  unfold eqGuard; cases op <;> rfl
theorem toList_data (s : ByteArray) : s.toList = s.data.toList := ByteArray.toList_eq s
theorem str_beq {a b : ByteArray} {l r : List (BitVec 8)} [h : StrL a l] [h' : StrL b r] : (a.toList == b.toList) = decide (l = r) := by
  rw [← h.eq, ← h'.eq, toList_data, toList_data, Bool.eq_iff_iff, beq_iff_eq, decide_eq_true_eq]
  constructor
  · intro e; simp [bL, e]
  · intro e; rw [bL_inj e]
theorem str_less {a b : ByteArray} {l r : List (BitVec 8)} [h : StrL a l] [h' : StrL b r] : Op.bytesLess a.toList b.toList = decide (ltS l r) := by
  rw [← h.eq, ← h'.eq, toList_data, toList_data, bytesLess_eq]
  exact Bool.decide_eq_true.symm
section
variable {P : Program} {t : TypeId} {a b : ByteArray} {l r : List (BitVec 8)} [h : StrL a l] [h' : StrL b r]
theorem bin_str (op : BinOp) (w : World) (hs : ∀ (x : Value), x = .string b → True) : (binOp op t (.string a) (.string b)).run P w = (Op.stringOp op a b).run P w := by
  cases op <;> simp [binOp]
instance binR_seq : BinR P .eql t (.string a) (.string b) True (.bool (decide (l = r))) := ⟨grd_str, fun _ w => by
  rw [bin_str _ w (fun _ _ => trivial)]; simp only [Op.stringOp, str_beq (l := l) (r := r)]; rfl⟩
instance binR_sne : BinR P .neq t (.string a) (.string b) True (.bool (decide (¬ l = r))) := ⟨grd_str, fun _ w => by
  rw [bin_str _ w (fun _ _ => trivial)]; simp only [Op.stringOp, str_beq (l := l) (r := r), decide_not]; rfl⟩
instance binR_slt : BinR P .lss t (.string a) (.string b) True (.bool (decide (ltS l r))) := ⟨grd_str, fun _ w => by
  rw [bin_str _ w (fun _ _ => trivial)]; simp only [Op.stringOp, str_less (l := l) (r := r)]; rfl⟩
instance binR_sge : BinR P .geq t (.string a) (.string b) True (.bool (decide (¬ ltS l r))) := ⟨grd_str, fun _ w => by
  rw [bin_str _ w (fun _ _ => trivial)]; simp only [Op.stringOp, str_less (l := l) (r := r), decide_not]; rfl⟩
instance binR_sle : BinR P .leq t (.string a) (.string b) True (.bool (decide (¬ ltS r l))) := ⟨grd_str, fun _ w => by
  rw [bin_str _ w (fun _ _ => trivial)]
  have e : (decide (ltS l r) || decide (l = r)) = decide (¬ ltS r l) := by
    rw [← Bool.decide_or, Bool.eq_iff_iff, decide_eq_true_eq, decide_eq_true_eq, not_ltS]
    exact ⟨fun h => h.imp id Eq.symm, fun h => h.imp id Eq.symm⟩
  simp only [Op.stringOp, str_less (l := l) (r := r), str_beq (l := l) (r := r), e]; rfl⟩
instance binR_sgt : BinR P .gtr t (.string a) (.string b) True (.bool (decide (ltS r l))) := ⟨grd_str, fun _ w => by
  rw [bin_str _ w (fun _ _ => trivial)]
  have e : (!(decide (ltS l r) || decide (l = r))) = decide (ltS r l) := by
    rw [← Bool.decide_or, ← decide_not, Bool.eq_iff_iff, decide_eq_true_eq, decide_eq_true_eq]
    rw [show (ltS l r ∨ l = r) ↔ ¬ ltS r l from ⟨fun h => not_ltS.2 (h.imp id Eq.symm), fun h => (not_ltS.1 h).imp id Eq.symm⟩, Decidable.not_not]
  simp only [Op.stringOp, str_less (l := l) (r := r), str_beq (l := l) (r := r), e]; rfl⟩
instance binR_sadd {a b : ByteArray} {l r : List (BitVec 8)} {x : List (BitVec 8)} [h : StrL a l] [h' : StrL b r] [hn : AppN l r x] : BinR P .add t (.string a) (.string b) (l.length + r.length ≤ 9223372036854775807) (.string (ofL x)) := ⟨grd_str, fun hs w => by
  rw [← hn.eq]
  rw [bin_str _ w (fun _ _ => trivial)]
  have e1 := bL_length a
  have e2 := bL_length b
  rw [h.eq] at e1
  rw [h'.eq] at e2
  rw [run_string_add_sum w a b (by omega)]
  rw [show ofL (l ++ r) = a ++ b from bL_inj (by rw [bL_ofL, bL_append, h.eq, h'.eq])]⟩
end

theorem run_sub {P : Program} {t : TypeId} {b : ByteArray} (ht : P.underlying t = some .string) (y z : Option Value) (i j : Nat) (w : World)
    (hy : (y = none ∧ i = 0) ∨ ∃ k, y = some (.int k (i : Int))) (hz : (z = none ∧ j = b.size) ∨ ∃ k, z = some (.int k (j : Int))) (h : i ≤ j) (h' : j ≤ b.size) :
    (Instr.slice t (.string b) y z none).run P w = .ok (.string (b.extract i j)) w := by
  have e0 : (0 : Int) ≤ (i : Int) := by omega
  have e1 : (0 : Int) ≤ (j : Int) := by omega
  have e2 : (i : Int) ≤ (j : Int) := by omega
  have e3 : (j : Int) ≤ (b.size : Int) := by omega
  rcases hy with ⟨rfl, rfl⟩ | ⟨k, rfl⟩ <;> rcases hz with ⟨rfl, rfl⟩ | ⟨k', rfl⟩ <;>
    simp [Instr.slice, Instr.sliceBounds, Instr.sliceBound, asIntOf, run_underlying ht, e0, e1, e2, e3, h, h'] <;> intro hc <;> omega

section
variable {ro : Option Nat} {P : Program} {N : Nat} {D : List Deferred} {w0 : World} {O : List Nat} {ops : Array Oper} {lo : List Oper} {s : List (Nat × Value)} {m : List As} {Q : Exit → Act → World → Prop}
variable {d : Nat} {ty : TypeId} {pos : String} {af : Array Edge} {b : ByteArray} {l : List (BitVec 8)}

theorem G_lenS {t : TypeId} {x : Operand} [ht : Und P t .string] (hx : ev s x = some (.string b)) (hN : Nat.blt d N = true) [h : StrL b l] (k : G ro P N D w0 O ops lo ((d, I l.length) :: s) m Q) :
    G ro P N D w0 O ops (⟨some d, .call ⟨.builtin .len, #[x], #[t]⟩, ty, pos, af, none⟩ :: lo) s m Q :=
  G_val _ rfl rfl (by simp) hN (fun a w hs' hm => by
    have e : b.size = l.length := by rw [← bL_length, h.eq]
    have e2 := run_len_string (P := P) w t ty b ht.eq
    rw [e] at e2
    simp only [execOp, resolve, invoke, builtin, List.map_toArray, List.map_cons, List.map_nil, hs'.ev hx, Sem.run_bind, Sem.run_pure, Result.andThen, e2]
    rfl) k
theorem G_strIx {t : TypeId} {x y : Operand} {kx : IntKind} {i : Int} {j : Nat} {sd : Prop} [ht : Und P t .string] (hx : ev s x = some (.string b)) (hy : ev s y = some (.int kx i)) (hN : Nat.blt d N = true) [h : StrL b l] [hj : NatR i j sd]
    (k : [h : Fct (j < l.length)] → G ro P N D w0 O ops lo ((d, B8 (l[j]'h.out)) :: s) m Q) (hs : sd ∧ j < l.length := by first | exact trivial | omega | (simp only [true_and, and_true, and_self]; omega) | exact ⟨trivial, rfl⟩ | exact ⟨rfl, rfl, by decide⟩ | rfl | (simp only [true_and, and_true, and_self]; done) | decide | assumption | exact ⟨by assumption, by omega⟩ | exact ⟨by assumption, by assumption⟩ | exact ⟨by assumption, by assumption, by omega⟩) : G ro P N D w0 O ops (⟨some d, .index t x y, ty, pos, af, none⟩ :: lo) s m Q :=
  G_val _ rfl rfl (by simp) hN (fun a w hs' hm => by
    have e1 := hj.eq hs.1
    subst e1
    have e : b.size = l.length := by rw [← bL_length, h.eq]
    have h2 := run_index_string (P := P) w t b kx (j : Int) ht.eq
    have h3 : 0 ≤ (j : Int) ∧ (j : Int) < (b.size : Int) := ⟨by omega, by rw [e]; have := hs.2; omega⟩
    rw [dif_pos h3] at h2
    have h4 : ((b[(j : Int).toNat]'(by have := h3.2; omega)).toNat : Int) = ((l[j]'hs.2).toNat : Int) := by
      have e5 : l[j]? = (bL b)[j]? := by rw [h.eq]
      have hb : j < b.data.size := by have := h3.2; simp only [ByteArray.size] at this; omega
      rw [List.getElem?_eq_getElem hs.2] at e5
      simp only [bL, List.getElem?_map, Array.getElem?_toList, Array.getElem?_eq_getElem hb, Option.map_some, Option.some.injEq] at e5
      rw [e5]
      rfl
    rw [h4] at h2
    simp only [execOp, hs'.ev hx, hs'.ev hy, Sem.run_bind, h2, Result.andThen, Sem.run_pure]) (k (h := ⟨hs.2⟩))

theorem G_subR {t : TypeId} {x : Operand} (y z : Option Operand) (i j : Nat) [ht : Und P t .string] (hx : ev s x = some (.string b)) (hN : Nat.blt d N = true) [h : StrL b l]
    (hy : (y = none ∧ i = 0) ∨ ∃ q k, y = some q ∧ ev s q = some (.int k (i : Int))) (hz : (z = none ∧ j = l.length) ∨ ∃ q k, z = some q ∧ ev s q = some (.int k (j : Int))) (hij : i ≤ j ∧ j ≤ l.length) {r : List (BitVec 8)} (hr : (l.drop i).take (j - i) = r)
    (k : G ro P N D w0 O ops lo ((d, .string (ofL r)) :: s) m Q) : G ro P N D w0 O ops (⟨some d, .slice t x y z none, ty, pos, af, none⟩ :: lo) s m Q :=
  G_val _ rfl rfl (by simp) hN (fun a w hs' hm => by
    have e : b.size = l.length := by rw [← bL_length, h.eq]
    have e1 : ofL r = b.extract i j := bL_inj (by rw [bL_ofL, bL_extract, h.eq, hr])
    rw [e1]
    have e2 := run_sub (P := P) (b := b) ht.eq (y.map a.eval) (z.map a.eval) i j w (by
      rcases hy with ⟨rfl, h1⟩ | ⟨q, k, rfl, h1⟩
      · exact .inl ⟨rfl, h1⟩
      · exact .inr ⟨k, by rw [Option.map_some, hs'.ev h1]⟩) (by
      rcases hz with ⟨rfl, h1⟩ | ⟨q, k, rfl, h1⟩
      · exact .inl ⟨rfl, by rw [e]; exact h1⟩
      · exact .inr ⟨k, by rw [Option.map_some, hs'.ev h1]⟩) hij.1 (by rw [e]; exact hij.2)
    simp only [execOp, hs'.ev hx, Option.map_none, Instr.sliceAt, run_underlying ht.eq, e2, Sem.run_bind, Sem.run_pure, Result.andThen]) k
theorem G_subLo {t : TypeId} {x y : Operand} {kx : IntKind} {i : Int} {a : Nat} {sd : Prop} [ht : Und P t .string] (hx : ev s x = some (.string b)) (hy : ev s y = some (.int kx i)) (hN : Nat.blt d N = true) [h : StrL b l] [hn : NatR i a sd]
    (k : [Fct (a ≤ l.length)] → G ro P N D w0 O ops lo ((d, .string (ofL (l.drop a))) :: s) m Q) (hs : sd ∧ a ≤ l.length := by first | exact trivial | omega | (simp only [true_and, and_true, and_self]; omega) | exact ⟨trivial, rfl⟩ | exact ⟨rfl, rfl, by decide⟩ | rfl | (simp only [true_and, and_true, and_self]; done) | decide | assumption | exact ⟨by assumption, by omega⟩ | exact ⟨by assumption, by assumption⟩ | exact ⟨by assumption, by assumption, by omega⟩) : G ro P N D w0 O ops (⟨some d, .slice t x (some y) none none, ty, pos, af, none⟩ :: lo) s m Q := by
  obtain rfl := hn.eq hs.1
  exact G_subR (some y) none a l.length hx hN (.inr ⟨y, kx, rfl, hy⟩) (.inl ⟨rfl, rfl⟩) ⟨hs.2, Nat.le_refl _⟩ (List.take_of_length_le (by rw [List.length_drop]; omega)) (@k ⟨hs.2⟩)
theorem G_subHi {t : TypeId} {x y : Operand} {kx : IntKind} {i : Int} {a : Nat} {sd : Prop} [ht : Und P t .string] (hx : ev s x = some (.string b)) (hy : ev s y = some (.int kx i)) (hN : Nat.blt d N = true) [h : StrL b l] [hn : NatR i a sd]
    (k : [Fct (a ≤ l.length)] → G ro P N D w0 O ops lo ((d, .string (ofL (l.take a))) :: s) m Q) (hs : sd ∧ a ≤ l.length := by first | exact trivial | omega | (simp only [true_and, and_true, and_self]; omega) | exact ⟨trivial, rfl⟩ | exact ⟨rfl, rfl, by decide⟩ | rfl | (simp only [true_and, and_true, and_self]; done) | decide | assumption | exact ⟨by assumption, by omega⟩ | exact ⟨by assumption, by assumption⟩ | exact ⟨by assumption, by assumption, by omega⟩) : G ro P N D w0 O ops (⟨some d, .slice t x none (some y) none, ty, pos, af, none⟩ :: lo) s m Q := by
  obtain rfl := hn.eq hs.1
  exact G_subR none (some y) 0 a hx hN (.inl ⟨rfl, rfl⟩) (.inr ⟨y, kx, rfl, hy⟩) ⟨Nat.zero_le _, hs.2⟩ (by rw [List.drop_zero, Nat.sub_zero]) (@k ⟨hs.2⟩)
theorem G_subBoth {t : TypeId} {x y z : Operand} {kx ky : IntKind} {i i' : Int} {a c : Nat} {sd sd' : Prop} [ht : Und P t .string] (hx : ev s x = some (.string b)) (hy : ev s y = some (.int kx i)) (hz : ev s z = some (.int ky i')) (hN : Nat.blt d N = true) [h : StrL b l] [hn : NatR i a sd] [hn' : NatR i' c sd']
    (k : [Fct (a ≤ c ∧ c ≤ l.length)] → G ro P N D w0 O ops lo ((d, .string (ofL ((l.drop a).take (c - a)))) :: s) m Q) (hs : (sd ∧ sd') ∧ a ≤ c ∧ c ≤ l.length := by first | exact trivial | omega | (simp only [true_and, and_true, and_self]; omega) | exact ⟨trivial, rfl⟩ | exact ⟨rfl, rfl, by decide⟩ | rfl | (simp only [true_and, and_true, and_self]; done) | decide | assumption | exact ⟨by assumption, by omega⟩ | exact ⟨by assumption, by assumption⟩ | exact ⟨by assumption, by assumption, by omega⟩) : G ro P N D w0 O ops (⟨some d, .slice t x (some y) (some z) none, ty, pos, af, none⟩ :: lo) s m Q := by
  obtain rfl := hn.eq hs.1.1
  obtain rfl := hn'.eq hs.1.2
  exact G_subR (some y) (some z) a c hx hN (.inr ⟨y, kx, rfl, hy⟩) (.inr ⟨z, ky, rfl, hz⟩) hs.2 rfl (@k ⟨hs.2⟩)

/-- string(b) -/
theorem G_strOf {t t' e : TypeId} {x : Operand} {v : Value} [ht : Und P t (.slice e)] [he : Und P e (.int .u8)] [ht' : Und P t' .string] (hx : ev s x = some v) (hN : Nat.blt d N = true) [h : RdR w0 O m v l]
    (k : G ro P N D w0 O ops lo ((d, .string (ofL l)) :: s) m Q) : G ro P N D w0 O ops (⟨some d, .convert t t' x, ty, pos, af, none⟩ :: lo) s m Q :=
  G_val _ rfl rfl (by simp) hN (fun a w hs' hm => by
    have hr := h.rd w hm
    obtain ⟨A, q, c, rfl, r1, r2, r3, r4⟩ := hr
    have hq : q = l.length := by
      rw [show Elt.sz (BitVec 8) = 1 from rfl, Nat.mul_one, encs_byte, List.length_map] at r1
      exact r1.symm
    subst hq
    have key : (convert t t' (.slice A l.length c)).run P w = .ok (.string (ofL l)) w := by
      by_cases h0 : 0 < l.length
      · obtain ⟨ad, rfl, r5⟩ := r4 (by rw [encs_byte, List.length_map]; exact h0)
        have e1 := run_convert_bytes_back (P := P) w t t' e ad c (l.map UInt8.ofBitVec) ht.eq he.eq ht'.eq (fun j hj => by
          rw [List.length_map] at hj
          rw [r5 j (B8 l[j]) (by rw [encs_byte, List.getElem?_map, List.getElem?_eq_getElem hj]; rfl), List.getElem_map]
          rfl)
        rw [List.length_map] at e1
        exact e1
      · obtain rfl := List.eq_nil_of_length_eq_zero (by omega : l.length = 0)
        rw [run_convert_bytes_string (P := P) w t t' e A _ c ht.eq he.eq ht'.eq]
        cases A with
        | none => rfl
        | some ad =>
          rw [List.length_nil, run_bytesToString (P := P) w ad 0 c [] (by simp [loadCells, loadCellsFrom])]
          rfl
    simp only [execOp, hs'.ev hx, key, Sem.run_bind, Sem.run_pure, Result.andThen]) k

/-- []byte(s): the bytes' block bears a mark behind its end -/
@[reducible] def bytB (g : Nat) (e : TypeId) (l : List (BitVec 8)) (c : Nat) : As := .box g (.cells (l.map B8 ++ List.replicate (c - l.length) (B8 0)).toArray e ((l.map B8 ++ List.replicate (c - l.length) (B8 0)).length, (l.map B8 ++ List.replicate (c - l.length) (B8 0)).length + 1))
theorem bytesRow_eq (b : ByteArray) (c : Nat) (h : bL b = l) : bytesRow b c = (l.map B8 ++ List.replicate (c - l.length) (B8 0)).toArray := by
  subst h
  apply Array.ext'
  have e : b.size = (bL b).length := (bL_length b).symm
  simp only [bytesRow, Array.toList_append, Array.toList_map, Array.toList_replicate, bL, List.map_map, e]
  rfl
instance (priority := high) rdR_bytB {g c : Nat} {e : TypeId} [hb : Fct (l.length ≤ c ∧ c ≤ 9223372036854775807)] : RdR w0 O (bytB g e l c :: m) (.slice (some ⟨g, 0, none⟩) l.length c) l := ⟨fun w hw => by
  have h1 : w.heap[g]? = some (.cells (l.map B8 ++ List.replicate (c - l.length) (B8 0)).toArray e _) := hw.ok _ (List.Mem.head _)
  obtain ⟨h2, h3⟩ := hb.out
  refine ⟨some ⟨g, 0, none⟩, l.length, c, rfl, ?_, h2, by simp only [maxLen]; omega, fun _ => ⟨_, rfl, fun j u hj => ?_⟩⟩
  · rw [encs_byte, List.length_map]; exact (Nat.mul_one _).symm
  · rw [encs_byte] at hj
    have hjl : j < l.length := by
      have := (List.getElem?_eq_some_iff.1 hj).1
      simpa using this
    rw [addr_add]
    simp only [World.cell?, h1, Nat.zero_add]
    simp only [Option.isSome_none, Bool.false_eq_true, if_false, List.getElem?_toArray]
    rw [List.getElem?_append_left (by simpa using hjl), hj]⟩
theorem G_bytesOf {t t' e : TypeId} {x : Operand} [ht : Und P t .string] [ht' : Und P t' (.slice e)] [he : Und P e (.int .u8)] (hx : ev s x = some (.string b)) (hN : Nat.blt d N = true) [h : StrL b l]
    (k : ∀ (q : Nat × Nat), [Fct (l.length ≤ q.2 ∧ q.2 ≤ 9223372036854775807)] → G ro P N D w0 O ops lo ((d, .slice (some ⟨q.1, 0, none⟩) l.length q.2) :: s) (bytB q.1 e l q.2 :: m) Q) (hb : l.length ≤ 4000000000000000000 := by first | omega | (simp only [List.length_append, List.length_cons, List.length_nil, List.length_map, List.length_take, List.length_drop, List.length_replicate, List.length_set, List.length_reverse, List.length_range]; omega)) :
    G ro P N D w0 O ops (⟨some d, .convert t t' x, ty, pos, af, none⟩ :: lo) s m Q :=
  G_any (ι := Nat × Nat) (fun q => .slice (some ⟨q.1, 0, none⟩) l.length q.2) (fun q => bytB q.1 e l q.2 :: m) (fun q => l.length ≤ q.2 ∧ q.2 ≤ 9223372036854775807) rfl rfl (by simp) hN (fun a w hs' hm => by
    have e1 : b.size = l.length := by rw [← bL_length, h.eq]
    have e2 := run_bytes_of_string (P := P) w t t' e b ht.eq ht'.eq he.eq
    rw [e1, bytesRow_eq b _ h.eq] at e2
    have e3 := grownCap_le_maxLen w l.length 0 e (by simp only [maxLen]; omega)
    have e4 := (hm.drew).alloc (.cells (l.map B8 ++ List.replicate (grownCap w l.length 0 e - l.length) (B8 0)).toArray e ((l.map B8 ++ List.replicate (grownCap w l.length 0 e - l.length) (B8 0)).length, (l.map B8 ++ List.replicate (grownCap w l.length 0 e - l.length) (B8 0)).length + 1))
    refine ⟨(w.heap.size, grownCap w l.length 0 e), w.drew.alloc (.cells (l.map B8 ++ List.replicate (grownCap w l.length 0 e - l.length) (B8 0)).toArray e ((l.map B8 ++ List.replicate (grownCap w l.length 0 e - l.length) (B8 0)).length, (l.map B8 ++ List.replicate (grownCap w l.length 0 e - l.length) (B8 0)).length + 1)), ⟨grownCap_ge w l.length 0 e, e3⟩, ?_, e4⟩
    simp only [execOp, hs'.ev hx, e2, Sem.run_bind, Sem.run_pure, Result.andThen, List.size_toArray]) (fun q hq => @k q ⟨hq⟩)

theorem strCells_bL (b : ByteArray) : Go.Lib.strCells b = encs (bL b) := by
  rw [encs_byte]
  simp only [Go.Lib.strCells, bL, List.map_map]
  rfl
theorem run_appS (w : World) (t u ty e : TypeId) (i : TypeInfo) (z : Value) (ht : P.underlying t = some (.slice e)) (hu : P.underlying u = some .string) (hi : P.info? e = some i) (hz : i.zero = some z)
    (hsize : i.size = 1) (hby : i.bytes = 1) (hzs : z.cells.size = 1) (v : Value) (n : Nat) (xs : List Value) (hown : w.ownsRow 0 e 1 v n xs) (b : ByteArray) (hbytes : n + b.size ≤ 140737488355328) :
    ∃ v' w', (Builtin.append_ #[t, u] ty #[v, .string b]).run P w = .ok v' w' ∧ w'.ownsRow 0 e 1 v' (n + b.size) (xs ++ Go.Lib.strCells b) ∧ w.grownBy w' v.ownBlock ∧ (v'.ownBlock = v.ownBlock ∨ v'.ownBlock = some w.heap.size) := by
  have h63 : n + b.size ≤ maxLen := by simp only [maxLen]; omega
  have hlen : (xs ++ Go.Lib.strCells b).length = (n + b.size) * 1 := by rw [List.length_append, hown.1, Go.Lib.strCells_length]; omega
  have hl : (Go.Lib.strCells b).length = b.size := Go.Lib.strCells_length b
  have hx1 : xs.length = n := by rw [hown.1, Nat.mul_one]
  have grown : ∀ (old : Nat), old < n + b.size → ∀ (row : Option Nat),
      (w.drew.alloc (.cells (xs.toArray ++ (Go.Lib.strCells b).toArray ++ Builtin.zeroCells z.cells (grownCap w (n + b.size) old e - (n + b.size))) e)).ownsRow 0 e 1
        (.slice (some ⟨w.heap.size, 0, none⟩) (n + b.size) (grownCap w (n + b.size) old e)) (n + b.size) (xs ++ Go.Lib.strCells b) ∧
      w.grownBy (w.drew.alloc (.cells (xs.toArray ++ (Go.Lib.strCells b).toArray ++ Builtin.zeroCells z.cells (grownCap w (n + b.size) old e - (n + b.size))) e)) row := by
    intro old ho row
    have hge := grownCap_ge w (n + b.size) old e
    have hcm : grownCap w (n + b.size) old e ≤ maxLen := grownCap_le_maxLen w (n + b.size) old e h63
    refine ⟨⟨hlen, .inr ⟨w.heap.size, _, _, rfl, Nat.zero_le _, heap_alloc_new w.drew _, hge, hcm, ?_, ?_⟩⟩, ⟨rfl, rfl, rfl, by simp, fun k hk _ => heap_alloc_old w.drew _ hk⟩⟩
    · simp only [Array.size_append, List.size_toArray, size_zeroCells, hzs, hx1, hl]
      omega
    · simp only [Array.toList_append, List.append_assoc]
      rw [← List.append_assoc, ← hlen]
      exact List.take_left
  by_cases hb0 : b.size = 0
  · obtain ⟨A', c', rfl, hle⟩ := own_le hown
    have hn : Go.Lib.strCells b = [] := List.eq_nil_of_length_eq_zero (by omega)
    have hsrc : Src P i.size u (.string b) 0 [] w := by
      have := Src.ofString w hu b
      rw [hb0, hsize, show byteCells b = [] from hn] at *
      exact this
    refine ⟨_, w, run_append_nothing w t u ty e i ht hi A' n c' hle _ hsrc, ?_, ⟨rfl, rfl, rfl, Nat.le_refl _, fun _ _ _ => rfl⟩, .inl rfl⟩
    rw [hn, List.append_nil, hb0]
    exact hown
  · rcases hown.2 with ⟨rfl, rfl⟩ | ⟨g, cap, cur, rfl, hbg, hg, hnc, hcm, hcs, htake⟩
    · have hx : xs = [] := List.eq_nil_of_length_eq_zero (by omega)
      subst hx
      have hr := run_append_nil_string (P := P) w t u ty e i z ht hu hi hz b (by omega) (by omega) (by rw [hby]; omega)
      have hgr := grown 0 (by omega) (Value.ownBlock (.slice none 0 0))
      simp only [Nat.zero_add, List.nil_append, Array.empty_append] at hgr ⊢
      have ea : Array.map (fun b : UInt8 => Value.int .u8 (b.toNat : Int)) b.data = (Go.Lib.strCells b).toArray := by
        apply Array.ext'
        simp [Go.Lib.strCells]
      rw [ea] at hr
      exact ⟨_, _, hr, hgr.1, hgr.2, Or.inr rfl⟩
    · by_cases hroom : n + b.size ≤ cap
      · have hr := Go.Lib.run_append_room_string (P := P) w t u ty e i ht hu hi hsize g n cap cur hg b hroom (by omega)
        refine ⟨_, _, hr, ⟨hlen, .inr ⟨g, cap, _, rfl, hbg, setRow_heap w g cur _ e _ hg, hroom, hcm, ?_, ?_⟩⟩, ⟨rfl, rfl, rfl, by simp, fun k _ hk => setRow_other w g k _ (fun e => hk (by simp [Value.ownBlock, e]))⟩, Or.inl rfl⟩
        · simp only [List.size_toArray, List.length_append, List.length_take, List.length_drop, Array.length_toList, hl]
          omega
        · rw [Nat.mul_one] at htake
          rw [htake, ← hlen]
          exact List.take_left
      · have holds : ∀ j u, xs[j]? = some u → w.cell? ((⟨g, 0, none⟩ : Addr).add j) = some u := hown.cells (g := g) rfl
        have hr := Go.Lib.run_append_grow_string (P := P) w t u ty e i z ht hu hi hz ⟨g, 0, none⟩ n cap xs (by rw [hsize]; exact hown.1) holds b (by omega) (by omega) (growslice_fits (by omega) (by rw [hby]; omega))
        have hgr := grown cap (by omega) (Value.ownBlock (.slice (some ⟨g, 0, none⟩) n cap))
        exact ⟨_, _, hr, hgr.1, hgr.2, Or.inr rfl⟩
/-- append(v, s...) of a string -/
theorem G_appS {t u e : TypeId} {zs : List Value} {x y : Operand} {v : Value} {l l' r : List (BitVec 8)} {mk : List As} [ht : Und P t (.slice e)] [hu : Und P u .string] [hL : Lay P e (BitVec 8)] [hR : Rw P e zs 1] (hx : ev s x = some v) (hy : ev s y = some (.string b)) (hN : Nat.blt d N = true)
    [ho : OwnR v m e l mk] [hs : StrL b l'] [hn : AppN l l' r]
    (kk : ∀ v', G ro P N D w0 O ops lo ((d, v') :: s) (row v' e r :: mk) Q) (hb : (l.length + l'.length) * 1 ≤ 140737488355328 := by first | omega | (simp only [List.length_append, List.length_cons, List.length_nil, List.length_map, List.length_take, List.length_drop, List.length_replicate, List.length_set, List.length_reverse, List.length_range]; omega)) :
    G ro P N D w0 O ops (⟨some d, .call ⟨.builtin .append, #[x, y], #[t, u]⟩, ty, pos, af, none⟩ :: lo) s m Q :=
  G_any (ι := Value) id (fun v' => row v' e (l ++ l') :: mk) (fun _ => True) rfl rfl (by simp) hN (fun a w hs' hw0 => by
    obtain ⟨i, z, i1, i2, i3, i4, i5⟩ := hR.info
    have hz : zs.length = 1 := Lay.zs (α := BitVec 8) (e := e) (P := P) (zs := zs) (bs := 1) w
    rw [hz] at i3
    have hw := ho.ent.st hw0
    have hown : w.ownsRow 0 e 1 v l.length (encs l) := row_ok (hw.ok _ (List.Mem.head _))
    have e1 : b.size = l'.length := by rw [← bL_length, hs.eq]
    obtain ⟨v', w', g1, g2, g3, g4⟩ := run_appS (P := P) w t u ty e i z ht.eq hu.eq i1 i2 i3 i4 (by rw [i5]; simpa using hz) v l.length (encs l) hown b (by omega)
    rw [e1, strCells_bL, hs.eq] at g2
    have he : row v' e (l ++ l') = .own v' e 1 (l.length + l'.length) (encs l ++ encs l') := by simp [row]; rfl
    refine ⟨v', w', trivial, ?_, by rw [he]; exact hw.append Take.here g2 g3 g4⟩
    simp [execOp, resolve, invoke, builtin, hs'.ev hx, hs'.ev hy, g1]) (fun v' _ => by rw [hn.eq]; exact kk v')
end
end Go.Proofs.Ytnncjfphdcfimaa
/- Maps of the call's own. -/
set_option linter.unusedVariables false
set_option linter.unusedSimpArgs false
namespace Go.Proofs.Ytnncjfphdcfimaa
open Go.RowKit Go.MapKept

section
variable {κ ν : Type} [Elt κ] [Elt ν] [DecidableEq κ]
def ents (o : Nat) : List (κ × ν) → List MapEntry
  | [] => []
  | p :: l => { key := Elt.val p.1, val := Elt.val p.2, born := o } :: ents (o + 1) l
/-- a map's object: its entries in the order in which they came -/
def mapO (l : List (κ × ν)) : Obj := .map (ents 0 l).toArray l.length
def mFind : List (κ × ν) → κ → Nat → Option (Nat × ν)
  | [], _, _ => none
  | p :: l, k, i => if k = p.1 then some (i, p.2) else mFind l k (i + 1)
/-- the element of a key -/
def mGet (l : List (κ × ν)) (k : κ) : Option ν := (mFind l k 0).map (·.2)
/-- an element is put -/
def mPut : List (κ × ν) → κ → ν → List (κ × ν)
  | [], k, v => [(k, v)]
  | p :: l, k, v => if k = p.1 then (p.1, v) :: l else p :: mPut l k v

/-- keys that are found by a look at their bits -/
class KeyM (P : Program) (kt : TypeId) (κ : outParam Type) [i : outParam (Elt κ)] [j : outParam (DecidableEq κ)] : Prop where
  ok : ∃ d, P.underlying kt = some d ∧ (∀ a : κ, IsKey d (Elt.val a)) ∧ ∀ a b : κ, Instr.sameNow d (Elt.val a) (Elt.val b) = some (decide (a = b))
instance keyM_int {P : Program} {kt : TypeId} [h : Und P kt (.int .i64)] : KeyM P kt Int := ⟨⟨_, h.eq, fun a => rfl, fun a b => by
  show (if IntKind.i64 = IntKind.i64 then some (a == b) else none) = _
  rw [if_pos rfl]; rfl⟩⟩
theorem bytes_beq' (a b : ByteArray) : (a == b) = true ↔ a = b := by
  have h : (a == b) = (a.data == b.data) := by cases a; cases b; rfl
  rw [h, beq_iff_eq]
  exact ⟨fun e => ByteArray.ext e, fun e => by rw [e]⟩
instance keyM_str {P : Program} {kt : TypeId} [h : Und P kt .string] : KeyM P kt ByteArray := ⟨⟨_, h.eq, fun a => trivial, fun a b => by
  show some (a == b) = _
  congr 1
  rw [Bool.eq_iff_iff, decide_eq_true_eq]
  exact bytes_beq' a b⟩⟩

theorem find_ents {d : TypeDesc} (hd : ∀ a b : κ, Instr.sameNow d (Elt.val a) (Elt.val b) = some (decide (a = b))) (k : κ) : ∀ (l : List (κ × ν)) (o i : Nat), Instr.findNow d (Elt.val k) (ents o l) i = some ((mFind l k i).map fun p => (p.1, Elt.val p.2))
  | [], _, _ => rfl
  | p :: l, o, i => by
    have e : Instr.findNow d (Elt.val k) (ents o (p :: l)) i = match Instr.sameNow d (Elt.val k) (Elt.val p.1) with
      | some true => some (some (i, Elt.val p.2))
      | some false => Instr.findNow d (Elt.val k) (ents (o + 1) l) (i + 1)
      | none => none := by rw [ents, Instr.findNow]; rfl
    rw [e, hd]
    by_cases h : k = p.1
    · rw [decide_eq_true h, mFind, if_pos h]; rfl
    · rw [decide_eq_false h, mFind, if_neg h]
      exact find_ents hd k l (o + 1) (i + 1)
omit [Elt κ] [Elt ν] in
theorem mFind_none {k : κ} {v : ν} : ∀ {l : List (κ × ν)} {i : Nat}, mFind l k i = none → mPut l k v = l ++ [(k, v)]
  | [], _, _ => rfl
  | p :: l, i, h => by
    rw [mFind] at h
    split at h
    · cases h
    · rename_i hne
      rw [mPut, if_neg hne, mFind_none h]; rfl
omit [DecidableEq κ] in
theorem ents_app (x : κ × ν) : ∀ (l : List (κ × ν)) (o : Nat), ents o (l ++ [x]) = ents o l ++ [{ key := Elt.val x.1, val := Elt.val x.2, born := o + l.length }]
  | [], o => rfl
  | p :: l, o => by
    rw [List.cons_append, ents, ents_app x l (o + 1), ents, List.length_cons, List.cons_append]
    congr 3
    simp only [MapEntry.mk.injEq, true_and]
    omega
theorem mFind_some {k : κ} {v : ν} : ∀ {l : List (κ × ν)} {i j : Nat} {b : ν}, mFind l k i = some (j, b) → ∀ (o : Nat) (f : MapEntry → MapEntry), (∀ e, e.key = Elt.val k → f e = { e with val := Elt.val v }) →
      i ≤ j ∧ (ents o l).modify (j - i) f = ents o (mPut l k v) ∧ (mPut l k v).length = l.length ∧ ((ents o l)[j - i]?).map (·.key) = some (Elt.val k)
  | [], _, _, _, h, _, _, _ => by cases h
  | p :: l, i, j, b, h, o, f, hf => by
    rw [mFind] at h
    split at h
    · rename_i hk
      simp only [Option.some.injEq, Prod.mk.injEq] at h
      obtain ⟨rfl, rfl⟩ := h
      rw [Nat.sub_self, mPut, if_pos hk, ents, ents]
      refine ⟨Nat.le_refl _, ?_, rfl, by rw [hk]; rfl⟩
      rw [List.modify_zero_cons, hf _ (by rw [hk])]
    · rename_i hk
      obtain ⟨h1, h2, h3, h4⟩ := mFind_some h (o + 1) f hf
      obtain ⟨q, rfl⟩ : ∃ q, j = i + (q + 1) := ⟨j - i - 1, by omega⟩
      rw [show i + (q + 1) - i = q + 1 by omega]
      rw [show i + (q + 1) - (i + 1) = q by omega] at h2 h4
      rw [mPut, if_neg hk, ents, ents]
      refine ⟨by omega, ?_, by rw [List.length_cons, h3, List.length_cons], by rw [List.getElem?_cons_succ]; exact h4⟩
      rw [List.modify_succ_cons, h2]
end

section
variable {ro : Option Nat} {P : Program} {N : Nat} {D : List Deferred} {w0 : World} {O : List Nat} {ops : Array Oper} {lo : List Oper} {s : List (Nat × Value)} {m : List As} {Q : Exit → Act → World → Prop}
variable {d : Nat} {ty : TypeId} {pos : String} {af : Array Edge} {κ ν : Type} [iκ : Elt κ] [iν : Elt ν] [dκ : DecidableEq κ]

theorem G_makeMap {t kt vt : TypeId} [ht : Und P t (.map kt vt)] [hk : KeyM P kt κ] [hv : Lay P vt ν] (hN : Nat.blt d N = true)
    (k : ∀ b, G ro P N D w0 O ops lo ((d, .map (some b)) :: s) (.box b (mapO ([] : List (κ × ν))) :: m) Q) :
    G ro P N D w0 O ops (⟨some d, .makeMap t none, ty, pos, af, none⟩ :: lo) s m Q :=
  G_any (ι := Nat) (fun b => .map (some b)) (fun b => .box b (mapO ([] : List (κ × ν))) :: m) (fun _ => True) rfl rfl (by simp) hN
    (fun a w hs hm => ⟨w.heap.size, w.alloc (.map #[] 0), trivial, by simp [execOp, Instr.makeMap, Result.andThen], hm.alloc _⟩) (fun b _ => k b)

theorem G_mapUpd {t kt vt : TypeId} {x y z : Operand} {b : Nat} {kv vv : Value} {l : List (κ × ν)} {q : κ} {r : ν} {mk : List As} {sk sv : Prop} [ht : Und P t (.map kt vt)] [hk : KeyM P kt κ] (hx : ev s x = some (.map (some b))) (hy : ev s y = some kv) (hz : ev s z = some vv)
    [hb : BoxR b m (mapO l) mk] [hdk : DecE κ kv q sk] [hdv : DecE ν vv r sv] {l' : List (κ × ν)} [hq : Eqn (mPut l q r) l'] (k : G ro P N D w0 O ops lo s (.box b (mapO l') :: mk) Q) (hs : sk ∧ sv := by first | exact ⟨trivial, trivial⟩ | (constructor <;> first | trivial | decide | omega)) :
    G ro P N D w0 O ops (⟨none, .mapUpdate t x y z, ty, pos, af, none⟩ :: lo) s m Q := by
  have e1 := hdk.eq hs.1
  have e2 := hdv.eq hs.2
  subst e1 e2
  rw [← hq.eq] at k
  refine G_ent hb.ent (G_unit rfl rfl (by simp) (fun a w hs' hw => ?_) k)
  obtain ⟨dd, d1, d2, d3⟩ := hk.ok
  have h1 : w.heap[b]? = some (.map (ents 0 l).toArray l.length) := hw.ok (.box b (mapO l)) (List.Mem.head _)
  have hc := fun (e : Bool) => run_checkKey (P := P) (w := w) d1 (d2 q) e 9999
  have hf := run_findKey (P := P) (w := w) d1 (find_ents d3 q l 0 0)
  have hg : ∀ o', w.grownBy { w with heap := w.heap.setIfInBounds b o' } (some b) := fun o' => ⟨rfl, rfl, rfl, by simp, fun k hk hne => by
    have : ¬ b = k := fun e => hne (by rw [e])
    simp [this]⟩
  have hblt : b < w.heap.size := (Array.getElem?_eq_some_iff.1 h1).1
  have hset : ∀ o' : Obj, ({ w with heap := w.heap.setIfInBounds b o' } : World).heap[b]? = some o' := fun o' => by simp [hblt]
  refine ⟨{ w with heap := w.heap.setIfInBounds b (mapO (mPut l q r)) }, ?_, St.set (m1 := []) hw (hg _) (hset _)⟩
  have hrun : (Instr.mapUpdate t (.map (some b)) (Elt.val q) (Elt.val r)).run P w = .ok () { w with heap := w.heap.setIfInBounds b (mapO (mPut l q r)) } := by
    simp only [Instr.mapUpdate, Sem.run_bind, run_underlying ht.eq, Result.andThen, Go.MapKept.run_getObj_map h1, hc, hf]
    cases hm : mFind l q 0 with
    | none =>
      simp only [Option.map_none]
      rw [Go.MapKept.run_setObj_map _ h1, mapO, mFind_none hm, ents_app, List.length_append]
      simp only [List.push_toArray, Nat.zero_add, List.length_cons, List.length_nil]
    | some jb =>
      obtain ⟨j, bb⟩ := jb
      simp only [Option.map_some]
      obtain ⟨_, h3, h4, h5⟩ := mFind_some (v := r) hm 0 (fun e => { e with key := Elt.val q, val := Elt.val r }) (fun e he => by rw [← he])
      rw [Nat.sub_zero] at h3 h5
      have h6 : (((ents 0 l).toArray[j]?).map (·.key)).getD (Elt.val q) = Elt.val q := by
        rw [List.getElem?_toArray, h5]; rfl
      rw [h6]
      simp only [Sem.run_bind, run_keyThatStays (d2 q), Result.andThen]
      rw [Go.MapKept.run_setObj_map _ h1, mapO, h4]
      have h7 : (ents 0 l).toArray.modify j (fun e => { e with key := Elt.val q, val := Elt.val r }) = (ents 0 (mPut l q r)).toArray := by
        apply Array.ext'
        rw [Array.toList_modify, ← h3]
      rw [h7]
  simp only [execOp, hs'.ev hx, hs'.ev hy, hs'.ev hz, Sem.run_bind, hrun, Result.andThen, Sem.run_pure]

theorem run_look {t kt vt : TypeId} {b : Nat} {l : List (κ × ν)} {w : World} {q : κ} {z : Value} [ht : Und P t (.map kt vt)] [hk : KeyM P kt κ] [hz : Sc P vt z] (h1 : w.heap[b]? = some (mapO l)) (ok : Bool) :
    (Instr.lookup t (.map (some b)) (Elt.val q) ok).run P w = .ok (if ok then .tuple #[((mGet l q).map Elt.val).getD z, .bool (mGet l q).isSome] else ((mGet l q).map Elt.val).getD z) w := by
  obtain ⟨dd, d1, d2, d3⟩ := hk.ok
  have hc := fun (e : Bool) => run_checkKey (P := P) (w := w) d1 (d2 q) e 9999
  have hf := run_findKey (P := P) (w := w) d1 (find_ents d3 q l 0 0)
  simp only [Instr.lookup, Sem.run_bind, run_underlying ht.eq, Result.andThen, Go.MapKept.run_getObj_map (es := (ents 0 l).toArray) (clock := l.length) h1, Sem.run_pure, hc, hf]
  cases hm : mFind l q 0 with
  | none => simp only [mGet, hm, Option.map_none, Option.getD_none, Option.isSome_none, Sem.run_bind, run_zero hz, Result.andThen, Sem.run_pure]
  | some jb => simp only [mGet, hm, Option.map_some, Option.getD_some, Option.isSome_some, Sem.run_bind, Result.andThen, Sem.run_pure]
theorem G_lookS {t kt vt : TypeId} {x y : Operand} {b : Nat} {kv u z : Value} {l : List (κ × ν)} {q : κ} {r : ν} {mk : List As} {sk : Prop} [ht : Und P t (.map kt vt)] [hk : KeyM P kt κ] [hz : Sc P vt z] (hx : ev s x = some (.map (some b))) (hy : ev s y = some kv) (hN : Nat.blt d N = true)
    [hb : BoxR b m (mapO l) mk] [hdk : DecE κ kv q sk] [hg : Eqn (mGet l q) (some r)] [hv : ValR r u] (k : G ro P N D w0 O ops lo ((d, .tuple #[u, .bool true]) :: s) m Q) (hs : sk := by first | exact trivial | decide | omega) :
    G ro P N D w0 O ops (⟨some d, .lookup t x y true, ty, pos, af, none⟩ :: lo) s m Q :=
  G_val _ rfl rfl (by simp) hN (fun a w hs' hm => by
    have e1 := hdk.eq hs
    subst e1
    have h1 : w.heap[b]? = some (mapO l) := (hb.ent.st hm).ok (.box b (mapO l)) (List.Mem.head _)
    have e2 := run_look (P := P) (t := t) (q := q) (z := z) h1 true
    rw [hg.eq] at e2
    simp only [Option.map_some, Option.getD_some, Option.isSome_some, if_true, hv.eq] at e2
    simp only [execOp, hs'.ev hx, hs'.ev hy, Sem.run_bind, e2, Result.andThen, Sem.run_pure]) k
theorem G_lookN {t kt vt : TypeId} {x y : Operand} {b : Nat} {kv z : Value} {l : List (κ × ν)} {q : κ} {mk : List As} {sk : Prop} [ht : Und P t (.map kt vt)] [hk : KeyM P kt κ] [hz : Sc P vt z] (hx : ev s x = some (.map (some b))) (hy : ev s y = some kv) (hN : Nat.blt d N = true)
    [hb : BoxR b m (mapO l) mk] [hdk : DecE κ kv q sk] [hg : Eqn (mGet l q) none] (k : G ro P N D w0 O ops lo ((d, .tuple #[z, .bool false]) :: s) m Q) (hs : sk := by first | exact trivial | decide | omega) :
    G ro P N D w0 O ops (⟨some d, .lookup t x y true, ty, pos, af, none⟩ :: lo) s m Q :=
  G_val _ rfl rfl (by simp) hN (fun a w hs' hm => by
    have e1 := hdk.eq hs
    subst e1
    have h1 : w.heap[b]? = some (mapO l) := (hb.ent.st hm).ok (.box b (mapO l)) (List.Mem.head _)
    have e2 := run_look (P := P) (t := t) (q := q) (z := z) h1 true
    rw [hg.eq] at e2
    simp only [Option.map_none, Option.getD_none, Option.isSome_none, if_true] at e2
    simp only [execOp, hs'.ev hx, hs'.ev hy, Sem.run_bind, e2, Result.andThen, Sem.run_pure]) k
end
end Go.Proofs.Ytnncjfphdcfimaa
/- Drawn regions by a table: a guard that is not known yet parts the ways. -/
set_option linter.unusedVariables false
set_option linter.unusedSimpArgs false
namespace Go.Proofs.Ytnncjfphdcfimaa
open Go.RowKit
section
variable {ro : Option Nat} {P : Program} {N : Nat} {D : List Deferred} {ops : Array Oper} {L : List Oper} {cs : List Nat} {als : Als} {k : Nat} {Q : Exit → Act → World → Prop}

theorem look_cons_le {s s' : List (Nat × Value)} {d : Nat} {v : Value} (h : ∀ t u, look s' t = some u → look s t = some u) : ∀ t u, look ((d, v) :: s') t = some u → look ((d, v) :: s) t = some u := fun t u hu => by
  unfold look at hu ⊢
  by_cases e : d = t
  · subst e
    rw [show Nat.beq d d = true from Nat.beq_refl d] at hu ⊢
    exact hu
  · rw [beq_no e] at hu ⊢
    exact h t u hu
theorem Has.le {s s' : List (Nat × Value)} {a : Act} (h : ∀ t u, look s' t = some u → look s t = some u) (hs : Has N s a) : Has N s' a := ⟨hs.size, fun t u hu => hs.at_ t u (h t u hu)⟩
theorem DQG_le : ∀ (r : List Nat) {w0 : World} {O : List Nat} {s s' : List (Nat × Value)} {q m : List As}, (∀ t u, look s' t = some u → look s t = some u) →
    DQG ro P N D ops L cs als k Q r w0 O s' q m → DQG ro P N D ops L cs als k Q r w0 O s q m
  | [], w0, O, s, s', q, m, h, hd => fun a w hs hdf hm => by
    unfold DQG at hd
    exact hd a w (hs.le h) hdf hm
  | i :: r, w0, O, s, s', q, m, h, hd => by
    unfold DQG at hd ⊢
    cases hA : alAt als i with
    | some p =>
      rw [hA] at hd
      exact fun b => DQG_le r (look_cons_le h) (hd b)
    | none =>
      rw [hA] at hd
      obtain ⟨o, d, ho, hdst, hx⟩ := hd
      refine ⟨o, d, ho, hdst, ?_⟩
      split
      · rename_i hc
        rw [if_pos hc] at hx
        intro mf a w hs hdf hm
        refine wpL_mono (fun e b w' hq => ?_) _ _ _ (hx mf a w (hs.le h) hdf hm)
        unfold CPostQ at hq ⊢
        rcases hq with ⟨h1, h2, w1, O1, v, q', h3, h4, h5, h6⟩ | hq
        · exact .inl ⟨h1, h2, w1, O1, v, q', h3, h4, h5, DQG_le r (look_cons_le h) h6⟩
        · exact .inr hq
      · rename_i hc
        rw [if_neg hc] at hx
        obtain ⟨v, q1, m1, h1, h2, h3⟩ := hx
        exact ⟨v, q1, m1, h1, fun w1 O1 hr m' a w hs hdf hm => h2 w1 O1 hr m' a w (hs.le h) hdf hm, DQG_le r (look_cons_le h) h3⟩
variable {w0 : World} {O : List Nat} {s : List (Nat × Value)} {q m : List As} {i j d' : Nat} {r : List Nat} {dst : Option Nat} {op : Op} {ty : TypeId} {p : String} {af : Array Edge} {b : Bool} {c : Prop} [ip : Decidable c]
theorem Is_dqGd (ho : L[i]? = some ⟨dst, op, ty, p, af, some (j, b)⟩) (h : DQ ro P N D w0 O ops L cs als k Q (i :: r) s q m) : DQ ro P N D w0 O ops L cs als k Q (i :: r) s q m := h
theorem look_over {bv : Bool} {v : Value} (hv : look s d' = some v) (e : v = .bool bv) : ∀ t u, look ((d', .bool bv) :: s) t = some u → look s t = some u := fun t u hu => by
  unfold look at hu
  by_cases e' : d' = t
  · subst e'
    rw [show Nat.beq d' d' = true from Nat.beq_refl d'] at hu
    rw [hv, e]
    exact hu
  · rw [beq_no e'] at hu
    exact hu
theorem DQ_splT (ho : L[i]? = some ⟨dst, op, ty, p, af, some (j, b)⟩) (hj : (L[j]?).bind (·.dst) = some d') (hv : look s d' = some (.bool (decide c))) [hy : Yes c]
    (h : DQ ro P N D w0 O ops L cs als k Q (i :: r) ((d', .bool true) :: s) q m) : DQ ro P N D w0 O ops L cs als k Q (i :: r) s q m := by
  unfold DQ at h ⊢
  exact DQG_le _ (look_over hv (by rw [decide_eq_true hy.yes])) h
theorem DQ_splF (ho : L[i]? = some ⟨dst, op, ty, p, af, some (j, b)⟩) (hj : (L[j]?).bind (·.dst) = some d') (hv : look s d' = some (.bool (decide c))) [hy : No c]
    (h : DQ ro P N D w0 O ops L cs als k Q (i :: r) ((d', .bool false) :: s) q m) : DQ ro P N D w0 O ops L cs als k Q (i :: r) s q m := by
  unfold DQ at h ⊢
  exact DQG_le _ (look_over hv (by rw [decide_eq_false hy.no])) h
theorem DQ_spl (ho : L[i]? = some ⟨dst, op, ty, p, af, some (j, b)⟩) (hj : (L[j]?).bind (·.dst) = some d') (hv : look s d' = some (.bool (decide c)))
    (ht : c → DQ ro P N D w0 O ops L cs als k Q (i :: r) ((d', .bool true) :: s) q m) (hf : ¬ c → DQ ro P N D w0 O ops L cs als k Q (i :: r) ((d', .bool false) :: s) q m) : DQ ro P N D w0 O ops L cs als k Q (i :: r) s q m := by
  unfold DQ at ht hf ⊢
  by_cases hc : c
  · exact DQG_le _ (look_over hv (by rw [decide_eq_true hc])) (ht hc)
  · exact DQG_le _ (look_over hv (by rw [decide_eq_false hc])) (hf hc)
/-- the place of an element, under a guard that is known to hold -/
theorem DR_idxK {α : Type} [Elt α] {d : Nat} {t e : TypeId} {x y : Operand} {v : Value} {kx : IntKind} {z : Int} {jn : Nat} {sd : Prop} {l : List α} {am : List As} {lr : List Oper} (ho : L[i]? = some ⟨some d, .indexAddr t x y, ty, p, af, some (j, b)⟩) [hR : RegionR ops lr] (hj : (lr[j]?).bind (·.dst) = some d') (hg : look s d' = some (.bool b)) (hc : cs.contains i = false) (hA : alAt als i = none)
    [ht : Und P t (.slice e)] [hL : Lay P e α] (hx : ev s x = some v) (hy : ev s y = some (.int kx z)) (hN : Nat.blt d N = true) [ha : AppA q m am] [h : RdR w0 O am v l] [hn : NatR z jn sd]
    (hr : [Fct (jn < l.length)] → DQ ro P N D w0 O ops L cs als k Q r ((d, .pointer (some (elP α v jn))) :: s) [] am) (hs : sd ∧ jn < l.length := by first | exact trivial | omega | (simp only [true_and, and_true, and_self]; omega) | exact ⟨trivial, rfl⟩ | exact ⟨rfl, rfl, by decide⟩ | rfl | (simp only [true_and, and_true, and_self]; done) | decide | assumption | exact ⟨by assumption, by omega⟩ | exact ⟨by assumption, by assumption⟩ | exact ⟨by assumption, by assumption, by omega⟩) : DQ ro P N D w0 O ops L cs als k Q (i :: r) s q m :=
  DQ_x ho rfl hc hA (fun w1 O1 hr1 m' => by
    have h2 : RdR w1 O1 (am ++ m') v l := ⟨fun w hw => h.rd w ((hr1.st hw).drop (List.sublist_append_left _ _))⟩
    have hjd : (ops[j]?).bind (·.dst) = some d' := by rw [hR.eq]; simpa using hj
    cases b with
    | true => exact G_guardT hg (G_idxR hx hy hN (G_nil (X_done (by simp [look]) (List.Sublist.refl _))) hs) (by simp) hjd
    | false => exact G_guardF hg (G_idxR hx hy hN (G_nil (X_done (by simp [look]) (List.Sublist.refl _))) hs) (by simp) hjd) (@hr ⟨hs.2⟩)
theorem Is_dqIx {d : Option Nat} {t : TypeId} {x y : Operand} {g : Option (Nat × Bool)} (ho : L[i]? = some ⟨d, .index t x y, ty, p, af, g⟩)
    (h : DQ ro P N D w0 O ops L cs als k Q (i :: r) s q m) : DQ ro P N D w0 O ops L cs als k Q (i :: r) s q m := h
/-- a string's byte -/
theorem DR_strIx {d : Nat} {t : TypeId} {x y : Operand} {bs : ByteArray} {kx : IntKind} {z : Int} {jn : Nat} {sd : Prop} {l : List (BitVec 8)} {f : List As → List As} (ho : L[i]? = some ⟨some d, .index t x y, ty, p, af, none⟩) (hc : cs.contains i = false) (hA : alAt als i = none)
    [ht : Und P t .string] (hx : ev s x = some (.string bs)) (hy : ev s y = some (.int kx z)) (hN : Nat.blt d N = true) [hl : StrL bs l] [hn : NatR z jn sd]
    (hr : [h : Fct (jn < l.length)] → DQ ro P N D w0 O ops L cs als k Q r ((d, B8 (l[jn]'h.out)) :: s) q m) (hs : sd ∧ jn < l.length := by first | exact trivial | omega | (simp only [true_and, and_true, and_self]; omega) | exact ⟨trivial, rfl⟩ | exact ⟨rfl, rfl, by decide⟩ | rfl | (simp only [true_and, and_true, and_self]; done) | decide | assumption | exact ⟨by assumption, by omega⟩ | exact ⟨by assumption, by assumption⟩ | exact ⟨by assumption, by assumption, by omega⟩) : DQ ro P N D w0 O ops L cs als k Q (i :: r) s q m :=
  DQ_step hA ⟨_, d, ho, rfl, by rw [if_neg (by simp only [hc]; decide)]; exact ⟨B8 (l[jn]'hs.2), q, m, .inl ⟨rfl, rfl⟩, fun w1 O1 hr1 m' => G_strIx hx hy hN (fun {_} => G_nil (X_done (by simp [look]) (List.Sublist.refl _))) hs, by have h9 := @hr ⟨hs.2⟩; unfold DQ at h9; exact h9⟩⟩
theorem DR_strIxK {d : Nat} {t : TypeId} {x y : Operand} {bs : ByteArray} {kx : IntKind} {z : Int} {jn : Nat} {sd : Prop} {l : List (BitVec 8)} {lr : List Oper} (ho : L[i]? = some ⟨some d, .index t x y, ty, p, af, some (j, b)⟩) [hR : RegionR ops lr] (hj : (lr[j]?).bind (·.dst) = some d') (hg : look s d' = some (.bool b)) (hc : cs.contains i = false) (hA : alAt als i = none)
    [ht : Und P t .string] (hx : ev s x = some (.string bs)) (hy : ev s y = some (.int kx z)) (hN : Nat.blt d N = true) [hl : StrL bs l] [hn : NatR z jn sd]
    (hr : [h : Fct (jn < l.length)] → DQ ro P N D w0 O ops L cs als k Q r ((d, B8 (l[jn]'h.out)) :: s) q m) (hs : sd ∧ jn < l.length := by first | exact trivial | omega | (simp only [true_and, and_true, and_self]; omega) | exact ⟨trivial, rfl⟩ | exact ⟨rfl, rfl, by decide⟩ | rfl | (simp only [true_and, and_true, and_self]; done) | decide | assumption | exact ⟨by assumption, by omega⟩ | exact ⟨by assumption, by assumption⟩ | exact ⟨by assumption, by assumption, by omega⟩) : DQ ro P N D w0 O ops L cs als k Q (i :: r) s q m :=
  DQ_step hA ⟨_, d, ho, rfl, by rw [if_neg (by simp only [hc]; decide)]; exact ⟨B8 (l[jn]'hs.2), q, m, .inl ⟨rfl, rfl⟩, fun w1 O1 hr1 m' => by
    have hjd : (ops[j]?).bind (·.dst) = some d' := by rw [hR.eq]; simpa using hj
    cases b with
    | true => exact G_guardT hg (G_strIx hx hy hN (fun {_} => G_nil (X_done (by simp [look]) (List.Sublist.refl _))) hs) (by simp) hjd
    | false => exact G_guardF hg (G_strIx hx hy hN (fun {_} => G_nil (X_done (by simp [look]) (List.Sublist.refl _))) hs) (by simp) hjd, by have h9 := @hr ⟨hs.2⟩; unfold DQ at h9; exact h9⟩⟩
/-- an operation under a guard that is known to hold -/
theorem Is_dqOn (ho : L[i]? = some ⟨dst, op, ty, p, af, some (j, b)⟩) (hj : (L[j]?).bind (·.dst) = some d') (hg : look s d' = some (.bool b)) (h : DQ ro P N D w0 O ops L cs als k Q (i :: r) s q m) : DQ ro P N D w0 O ops L cs als k Q (i :: r) s q m := h
theorem Is_dqNo (ho : L[i]? = some ⟨dst, op, ty, p, af, none⟩) (h : DQ ro P N D w0 O ops L cs als k Q (i :: r) s q m) : DQ ro P N D w0 O ops L cs als k Q (i :: r) s q m := h
end
end Go.Proofs.Ytnncjfphdcfimaa
/- One operation: the rules, tried one after the other, in the statement of one theorem. -/
set_option linter.unusedVariables false
set_option linter.unusedSimpArgs false
namespace Go.Proofs.Ytnncjfphdcfimaa
open Go.RowKit

def Hide (Y : Prop) : Prop := Y
theorem hide_o {Y : Prop} (k : Hide Y) : Y := k
theorem hide_l {A B : Prop} (k : Hide (A ∧ B)) : A := And.left k
theorem hide_r {A B : Prop} (k : Hide (A ∧ B)) : B := And.right k
theorem hide_t {X : Prop} (k : Hide True) (x : X) : X := x
attribute [irreducible] Hide
section
variable {ro : Option Nat} {P : Program} {N : Nat} {D : List Deferred} {w0 : World} {O : List Nat} {s : List (Nat × Value)} {m : List As} {Q : Exit → Act → World → Prop}
theorem Is_drawI {id d : Nat} {o : Op} {ty : TypeId} {p : String} {af : Array Edge} {g : Option (Nat × Bool)} {r : List Oper} {order cs ds : List Nat} {k : Nat} [hi : DrawI p id d order cs k ds] (h : GC ro P N D w0 O (.region id (⟨some d, o, ty, p, af, g⟩ :: r).toArray true) s m Q) :
    GC ro P N D w0 O (.region id (⟨some d, o, ty, p, af, g⟩ :: r).toArray true) s m Q := h
theorem Is_DQ {ops : Array Oper} {L : List Oper} {cs : List Nat} {als : Als} {k : Nat} {r : List Nat} {q : List As} (h : DQ ro P N D w0 O ops L cs als k Q r s q m) : DQ ro P N D w0 O ops L cs als k Q r s q m := h
theorem Is_dqIdx {ops : Array Oper} {L : List Oper} {cs : List Nat} {als : Als} {k i : Nat} {r : List Nat} {q : List As} {d : Option Nat} {t ty : TypeId} {x y : Operand} {p : String} {af : Array Edge} {g : Option (Nat × Bool)} (ho : L[i]? = some ⟨d, .indexAddr t x y, ty, p, af, g⟩)
    (h : DQ ro P N D w0 O ops L cs als k Q (i :: r) s q m) : DQ ro P N D w0 O ops L cs als k Q (i :: r) s q m := h
theorem Is_dqSl {ops : Array Oper} {L : List Oper} {cs : List Nat} {als : Als} {k i : Nat} {r : List Nat} {q : List As} {d : Option Nat} {t ty : TypeId} {x : Operand} {y1 y2 y3 : Option Operand} {p : String} {af : Array Edge} {g : Option (Nat × Bool)} (ho : L[i]? = some ⟨d, .slice t x y1 y2 y3, ty, p, af, g⟩)
    (h : DQ ro P N D w0 O ops L cs als k Q (i :: r) s q m) : DQ ro P N D w0 O ops L cs als k Q (i :: r) s q m := h
end
theorem V_op {X Y : Prop} (h : Y) (hY : Hide Y → X := by
  intro k
  first
  | (refine Is_G ?_; first
    | (refine Is_move ?_; exact G_move rfl rfl (@hide_o _ k))
    | (refine Is_assign ?_; exact G_assign rfl rfl (@hide_o _ k))
    | (refine Is_bin ?_; first
      | exact G_binR rfl rfl rfl (@hide_o _ k)
      | exact G_isNilT rfl rfl (@hide_o _ k)
      | exact G_isNilF rfl rfl (@hide_o _ k))
    | (refine Is_load ?_; first
      | exact G_loadB rfl rfl rfl (@hide_o _ k)
      | exact G_ldR rfl rfl (@hide_o _ k)
      | exact G_loadA0 rfl rfl rfl (@hide_o _ k)
      | exact G_loadAP rfl rfl (@hide_o _ k))
    | (refine Is_callv ?_; first
      | exact G_callV rfl rfl rfl (@hide_o _ k)
      | exact G_callR rfl rfl rfl (@hide_o _ k)
      | exact G_callD rfl rfl rfl (@hide_o _ k)
      | exact G_callX rfl rfl rfl (@hide_o _ k)
      | exact G_frzA rfl rfl (@hide_o _ k))
    | (refine Is_builtin ?_; first
      | exact G_lenR rfl rfl (@hide_o _ k)
      | exact G_lenS rfl rfl (@hide_o _ k))
    | (refine Is_convert ?_; first
      | exact G_convR rfl rfl (@hide_o _ k)
      | exact G_strOf rfl rfl (@hide_o _ k)
      | exact G_bytesOf rfl rfl (@hide_o _ k))
    | (refine Is_indexAddr ?_; first
      | exact G_idxR rfl rfl rfl (@hide_o _ k)
      | exact G_indexA rfl rfl (by first | decide | omega) rfl (@hide_o _ k))
    | (refine Is_extract ?_; first
      | exact G_extractT rfl rfl rfl (@hide_o _ k)
      | exact G_extract rfl rfl rfl (@hide_o _ k))
    | (refine Is_fieldAddr ?_; first
      | exact G_fieldOff rfl rfl (@hide_o _ k)
      | exact G_fieldAny rfl rfl (@hide_o _ k))
    | (refine Is_store ?_; first
      | exact G_storeW rfl rfl rfl (@hide_o _ k)
      | exact G_storeAW rfl rfl rfl rfl (@hide_o _ k)
      | exact G_stR rfl rfl (@hide_o _ k))
    | (refine Is_field ?_; first
      | exact G_fieldS rfl rfl rfl (@hide_o _ k)
      | exact G_fieldG rfl rfl rfl (@hide_o _ k))
    | (refine Is_index ?_; first
      | exact G_indexG rfl rfl (by simp only [List.length_cons, List.length_nil, Nat.reduceAdd, Nat.reduceMul, Nat.zero_mul, List.drop_zero, List.drop_succ_cons, List.take_succ_cons, List.take_zero]; exact rfl) rfl (@hide_o _ k)
      | exact G_indexSc rfl rfl rfl rfl (@hide_o _ k)
      | exact G_strIdx rfl rfl rfl (@hide_o _ k)
      | exact G_strIx rfl rfl rfl (@hide_o _ k))
    | (refine Is_un ?_; first
      | exact G_notR rfl rfl (@hide_o _ k)
      | exact G_negR rfl rfl (@hide_o _ k))
    | (refine Is_guard ?_; exact G_guardI (@hide_o _ k))
    | (refine Is_pick ?_; first
      | exact G_pickT rfl rfl rfl (@hide_o _ k)
      | exact G_pickF rfl rfl rfl (@hide_o _ k)
      | exact G_pickD rfl (hide_l k) (hide_r k))
    | (refine Is_lit ?_; first
      | exact G_strLit rfl rfl rfl rfl rfl rfl rfl (@hide_o _ k)
      | exact G_litR rfl rfl rfl rfl rfl (@hide_o _ k)
      | exact G_litD rfl rfl rfl rfl rfl (@hide_o _ k))
    | (refine Is_slice ?_; first
      | exact G_cutLo rfl rfl rfl (@hide_o _ k)
      | exact G_cutHi rfl rfl rfl (@hide_o _ k)
      | exact G_cutBoth rfl rfl rfl rfl (@hide_o _ k)
      | exact G_subLo rfl rfl rfl (@hide_o _ k)
      | exact G_subHi rfl rfl rfl (@hide_o _ k)
      | exact G_subBoth rfl rfl rfl rfl (@hide_o _ k))
    | (refine Is_builtin ?_; first
      | exact G_appLit rfl rfl rfl (@hide_o _ k)
      | exact G_appR rfl rfl rfl (@hide_o _ k)
      | exact G_appFullS rfl rfl rfl (@hide_o _ k)
      | exact G_appS rfl rfl rfl (@hide_o _ k)
      | exact G_copyT rfl rfl rfl (@hide_o _ k)
      | exact G_copyA rfl rfl rfl (@hide_o _ k)
      | exact G_min rfl rfl rfl rfl (@hide_o _ k)
      | exact G_max rfl rfl rfl rfl (@hide_o _ k))
    | (refine Is_makeFunc ?_; exact G_makeFunc rfl rfl rfl (@hide_o _ k))
    | (refine Is_alloc ?_; first
      | exact G_alloc rfl (@hide_o _ k)
      | exact G_allocA rfl (@hide_o _ k))
    | (refine Is_make ?_; exact G_makeR rfl rfl rfl (@hide_o _ k))
    | (refine Is_box ?_; exact G_boxR rfl rfl (@hide_o _ k))
    | (refine Is_build ?_; exact G_buildR rfl rfl (@hide_o _ k))
    | (refine Is_nilCheck ?_; exact G_nilCheck rfl rfl (@hide_o _ k))
    | exact G_panic rfl (@hide_o _ k)
    | exact G_mkIface rfl rfl (@hide_o _ k)
    | exact G_assertT rfl rfl (@hide_o _ k)
    | exact G_defer rfl rfl (@hide_o _ k)
    | exact G_mapUpd rfl rfl rfl (@hide_o _ k)
    | exact G_lookS rfl rfl rfl (@hide_o _ k)
    | exact G_lookN rfl rfl rfl (@hide_o _ k)
    | exact G_makeMap rfl (@hide_o _ k))
  | (refine Is_GC ?_; first
    | exact GC_seq (@hide_o _ k)
    | exact GC_regionR (@hide_o _ k)
    | (refine Is_cond ?_; first
      | exact GC_condT rfl (@hide_o _ k)
      | exact GC_condF rfl (@hide_o _ k)
      | exact GC_condD rfl (hide_l k) (hide_r k))
    | exact GC_skip (@hide_o _ k)
    | exact GC_block (@hide_o _ k)
    | exact GC_exit (@hide_o _ k)
    | exact GC_ret (@hide_o _ k)
    | (refine Is_drawI ?_; exact GC_drawI (@hide_o _ k))
    | exact GC_drawJ (@hide_o _ k)
    | exact GC_drawA (@hide_o _ k)
    | exact GC_drawH (@hide_o _ k))
  | (refine Is_At ?_; first
    | exact At_then (@hide_o _ k)
    | exact At_then_exit (@hide_o _ k)
    | exact At_then_ret (@hide_o _ k)
    | exact At_block (@hide_o _ k)
    | exact At_block_ret (@hide_o _ k)
    | exact At_block_hit (@hide_o _ k)
    | exact At_block_miss rfl (@hide_o _ k)
    | exact At_roundS_exit (@hide_o _ k)
    | exact At_roundS_ret (@hide_o _ k)
    | exact At_nx (@hide_o _ k)
    | exact At_nxL (by decide +kernel) (by decide +kernel) (@hide_o _ k)
    | exact At_nxH (@hide_o _ k)
    | exact At_roundD_exit (@hide_o _ k)
    | exact At_roundD_ret (@hide_o _ k)
    | exact At_then_panic (@hide_o _ k)
    | exact At_block_panic (@hide_o _ k)
    | exact At_roundS_panic (@hide_o _ k)
    | exact At_roundD_panic (@hide_o _ k)
    | exact At_dqPanic (@hide_o _ k)
    | exact hide_t k (X_done rfl (List.Sublist.refl _))
    | exact C_doneD rfl (@hide_o _ k))
  | (refine Is_GAt ?_; first
    | exact G_guardT rfl (@hide_o _ k)
    | exact G_guardF rfl (@hide_o _ k)
    | exact G_guardTF rfl rfl (@hide_o _ k)
    | exact G_guardFT rfl rfl (@hide_o _ k)
    | exact G_guardUU rfl rfl (@hide_o _ k)
    | exact G_guardD rfl (hide_l k) (hide_r k))
  | (refine Is_GA ?_; first
    | exact GA_done (by decide +kernel) (@hide_o _ k)
    | (refine GA_pick rfl ?_; first
      | exact GX_mv rfl rfl rfl (by decide +kernel) (by decide +kernel) (by decide +kernel) (@hide_o _ k)
      | exact GX_fa rfl rfl rfl (by decide +kernel) (by decide +kernel) (by decide +kernel) (@hide_o _ k)
      | exact GX_cutLo rfl rfl rfl rfl (by decide +kernel) (by decide +kernel) (by decide +kernel) (@hide_o _ k)
      | exact GX_cutHi rfl rfl rfl rfl (by decide +kernel) (by decide +kernel) (by decide +kernel) (@hide_o _ k)
      | exact GX_cutBoth rfl rfl rfl rfl rfl (by decide +kernel) (by decide +kernel) (by decide +kernel) (@hide_o _ k))
    | exact GA_ready (by decide +kernel) (@hide_o _ k))
  | (refine Is_GH ?_; first
    | exact GH_done (by decide +kernel) (@hide_o _ k)
    | (refine GH_pick rfl ?_; first
      | exact HX_mv (by decide +kernel) rfl rfl rfl (@hide_o _ k)
      | exact HX_fa (by decide +kernel) rfl rfl rfl (@hide_o _ k)
      | exact HX_fany (by decide +kernel) rfl rfl rfl (@hide_o _ k)
      | exact HX_ldB (by decide +kernel) rfl rfl rfl rfl (@hide_o _ k)
      | exact HX_ldR (by decide +kernel) rfl rfl rfl (@hide_o _ k)
      | exact HX_ldA (by decide +kernel) rfl rfl rfl (@hide_o _ k)
      | exact HX_len (by decide +kernel) rfl rfl rfl (@hide_o _ k)
      | exact HX_bin (by decide +kernel) rfl rfl rfl rfl (@hide_o _ k)
      | exact HX_conv (by decide +kernel) rfl rfl rfl (@hide_o _ k)
      | exact HX_idx (by decide +kernel) rfl rfl rfl rfl (@hide_o _ k)
      | exact HX_ext (by decide +kernel) rfl rfl rfl rfl (@hide_o _ k)
      | exact HX_field (by decide +kernel) rfl rfl rfl rfl (@hide_o _ k)
      | exact HX_not (by decide +kernel) rfl rfl rfl (@hide_o _ k)
      | exact HX_cutLo (by decide +kernel) rfl rfl rfl rfl (@hide_o _ k)
      | exact HX_cutHi (by decide +kernel) rfl rfl rfl rfl (@hide_o _ k)
      | exact HX_cutBoth (by decide +kernel) rfl rfl rfl rfl rfl (@hide_o _ k))
    | exact GH_ready (by decide +kernel) (@hide_o _ k))
  | (refine Is_GHR ?_; first
    | exact hide_t k (GHR_end (by decide +kernel))
    | exact GHR_skip (by decide +kernel) (@hide_o _ k)
    | exact GHR_do rfl rfl (hide_l k) (hide_r k))
  | (refine Is_GAR ?_; first
    | exact hide_t k (GAR_end (by decide +kernel))
    | exact GAR_skip (by decide +kernel) (@hide_o _ k)
    | exact GAR_do rfl rfl (hide_l k) (hide_r k))
  | (refine Is_DQ ?_; first
    | exact DQ_nil rfl (@hide_o _ k)
    | (refine Is_dqIdx rfl ?_; first
      | (refine Is_dqNo rfl ?_; exact DR_idx rfl rfl rfl rfl rfl rfl (@hide_o _ k))
      | (refine Is_dqOn rfl rfl rfl ?_; exact DR_idxK rfl rfl rfl rfl rfl rfl rfl rfl (@hide_o _ k)))
    | (refine Is_dqIx rfl ?_; first
      | (refine Is_dqNo rfl ?_; exact DR_strIx rfl rfl rfl rfl rfl rfl (@hide_o _ k))
      | (refine Is_dqOn rfl rfl rfl ?_; exact DR_strIxK rfl rfl rfl rfl rfl rfl rfl rfl (@hide_o _ k)))
    | (refine Is_dqSl rfl ?_; first
      | exact DR_cutLo rfl rfl rfl rfl rfl rfl (@hide_o _ k)
      | exact DR_sliceG rfl (DR_cutLoT rfl rfl rfl rfl rfl rfl rfl (@hide_o _ k))
      | exact DR_cutHi rfl rfl rfl rfl rfl rfl (@hide_o _ k)
      | exact DR_cutBoth rfl rfl rfl rfl rfl rfl rfl (@hide_o _ k))
    | (refine Is_dqGd rfl ?_; first
      | exact DQ_splT rfl rfl rfl (@hide_o _ k)
      | exact DQ_splF rfl rfl rfl (@hide_o _ k)
      | exact DQ_spl rfl rfl rfl (hide_l k) (hide_r k))
    | exact DQ_al rfl (@hide_o _ k)
    | exact DQ_c rfl rfl rfl rfl (@hide_o _ k))) : X := hY (by unfold Hide; exact h)
theorem V_opW {X Y : Prop} (h : Y) (hY : Hide Y → X := by
  intro k
  first
  | (refine Is_G ?_; first
    | (refine Is_move ?_; exact G_move rfl rfl (@hide_o _ k))
    | (refine Is_assign ?_; exact G_assign rfl rfl (@hide_o _ k))
    | (refine Is_bin ?_; first
      | exact G_binR rfl rfl rfl (@hide_o _ k)
      | exact G_isNilT rfl rfl (@hide_o _ k)
      | exact G_isNilF rfl rfl (@hide_o _ k)
      | exact G_eqNil rfl rfl (@hide_o _ k)
      | exact G_addW rfl rfl rfl (@hide_o _ k)
      | exact G_subW rfl rfl rfl (@hide_o _ k)
      | exact G_mulW rfl rfl rfl (@hide_o _ k))
    | (refine Is_load ?_; first
      | exact G_loadB rfl rfl rfl (@hide_o _ k)
      | exact G_ldR rfl rfl (@hide_o _ k)
      | exact G_loadA0 rfl rfl rfl (@hide_o _ k)
      | exact G_loadAP rfl rfl (@hide_o _ k))
    | (refine Is_callv ?_; first
      | exact G_callV rfl rfl rfl (@hide_o _ k)
      | exact G_callR rfl rfl rfl (@hide_o _ k)
      | exact G_callD rfl rfl rfl (@hide_o _ k)
      | exact G_callX rfl rfl rfl (@hide_o _ k)
      | exact G_frzA rfl rfl (@hide_o _ k))
    | (refine Is_builtin ?_; first
      | exact G_lenR rfl rfl (@hide_o _ k)
      | exact G_lenS rfl rfl (@hide_o _ k))
    | (refine Is_convert ?_; first
      | exact G_convR rfl rfl (@hide_o _ k)
      | exact G_strOf rfl rfl (@hide_o _ k)
      | exact G_bytesOf rfl rfl (@hide_o _ k))
    | (refine Is_indexAddr ?_; first
      | exact G_idxR rfl rfl rfl (@hide_o _ k)
      | exact G_indexA rfl rfl (by first | decide | omega) rfl (@hide_o _ k))
    | (refine Is_extract ?_; first
      | exact G_extractT rfl rfl rfl (@hide_o _ k)
      | exact G_extract rfl rfl rfl (@hide_o _ k))
    | (refine Is_fieldAddr ?_; first
      | exact G_fieldOff rfl rfl (@hide_o _ k)
      | exact G_fieldAny rfl rfl (@hide_o _ k))
    | (refine Is_store ?_; first
      | exact G_storeW rfl rfl rfl (@hide_o _ k)
      | exact G_storeAW rfl rfl rfl rfl (@hide_o _ k)
      | exact G_stR rfl rfl (@hide_o _ k))
    | (refine Is_field ?_; first
      | exact G_fieldS rfl rfl rfl (@hide_o _ k)
      | exact G_fieldG rfl rfl rfl (@hide_o _ k))
    | (refine Is_index ?_; first
      | exact G_indexG rfl rfl (by simp only [List.length_cons, List.length_nil, Nat.reduceAdd, Nat.reduceMul, Nat.zero_mul, List.drop_zero, List.drop_succ_cons, List.take_succ_cons, List.take_zero]; exact rfl) rfl (@hide_o _ k)
      | exact G_indexSc rfl rfl rfl rfl (@hide_o _ k)
      | exact G_strIdx rfl rfl rfl (@hide_o _ k)
      | exact G_strIx rfl rfl rfl (@hide_o _ k))
    | (refine Is_un ?_; first
      | exact G_notR rfl rfl (@hide_o _ k)
      | exact G_negR rfl rfl (@hide_o _ k))
    | (refine Is_guard ?_; exact G_guardI (@hide_o _ k))
    | (refine Is_pick ?_; first
      | exact G_pickT rfl rfl rfl (@hide_o _ k)
      | exact G_pickF rfl rfl rfl (@hide_o _ k)
      | exact G_pickD rfl (hide_l k) (hide_r k))
    | (refine Is_lit ?_; first
      | exact G_strLit rfl rfl rfl rfl rfl rfl rfl (@hide_o _ k)
      | exact G_litR rfl rfl rfl rfl rfl (@hide_o _ k)
      | exact G_litD rfl rfl rfl rfl rfl (@hide_o _ k))
    | (refine Is_slice ?_; first
      | exact G_cutLo rfl rfl rfl (@hide_o _ k)
      | exact G_cutHi rfl rfl rfl (@hide_o _ k)
      | exact G_cutBoth rfl rfl rfl rfl (@hide_o _ k)
      | exact G_subLo rfl rfl rfl (@hide_o _ k)
      | exact G_subHi rfl rfl rfl (@hide_o _ k)
      | exact G_subBoth rfl rfl rfl rfl (@hide_o _ k))
    | (refine Is_builtin ?_; first
      | exact G_appLit rfl rfl rfl (@hide_o _ k)
      | exact G_appR rfl rfl rfl (@hide_o _ k)
      | exact G_appFullS rfl rfl rfl (@hide_o _ k)
      | exact G_appS rfl rfl rfl (@hide_o _ k)
      | exact G_copyT rfl rfl rfl (@hide_o _ k)
      | exact G_copyA rfl rfl rfl (@hide_o _ k)
      | exact G_min rfl rfl rfl rfl (@hide_o _ k)
      | exact G_max rfl rfl rfl rfl (@hide_o _ k))
    | (refine Is_makeFunc ?_; exact G_makeFunc rfl rfl rfl (@hide_o _ k))
    | (refine Is_alloc ?_; first
      | exact G_alloc rfl (@hide_o _ k)
      | exact G_allocA rfl (@hide_o _ k))
    | (refine Is_make ?_; exact G_makeR rfl rfl rfl (@hide_o _ k))
    | (refine Is_box ?_; exact G_boxR rfl rfl (@hide_o _ k))
    | (refine Is_build ?_; exact G_buildR rfl rfl (@hide_o _ k))
    | (refine Is_nilCheck ?_; exact G_nilCheck rfl rfl (@hide_o _ k))
    | exact G_panic rfl (@hide_o _ k)
    | exact G_mkIface rfl rfl (@hide_o _ k)
    | exact G_assertT rfl rfl (@hide_o _ k)
    | exact G_defer rfl rfl (@hide_o _ k)
    | exact G_mapUpd rfl rfl rfl (@hide_o _ k)
    | exact G_lookS rfl rfl rfl (@hide_o _ k)
    | exact G_lookN rfl rfl rfl (@hide_o _ k)
    | exact G_makeMap rfl (@hide_o _ k))
  | (refine Is_GC ?_; first
    | exact GC_seq (@hide_o _ k)
    | exact GC_regionR (@hide_o _ k)
    | (refine Is_cond ?_; first
      | exact GC_condT rfl (@hide_o _ k)
      | exact GC_condF rfl (@hide_o _ k)
      | exact GC_condD rfl (hide_l k) (hide_r k))
    | exact GC_skip (@hide_o _ k)
    | exact GC_block (@hide_o _ k)
    | exact GC_exit (@hide_o _ k)
    | exact GC_ret (@hide_o _ k)
    | (refine Is_drawI ?_; exact GC_drawI (@hide_o _ k))
    | exact GC_drawJ (@hide_o _ k)
    | exact GC_drawA (@hide_o _ k)
    | exact GC_drawH (@hide_o _ k))
  | (refine Is_At ?_; first
    | exact At_then (@hide_o _ k)
    | exact At_then_exit (@hide_o _ k)
    | exact At_then_ret (@hide_o _ k)
    | exact At_block (@hide_o _ k)
    | exact At_block_ret (@hide_o _ k)
    | exact At_block_hit (@hide_o _ k)
    | exact At_block_miss rfl (@hide_o _ k)
    | exact At_roundS_exit (@hide_o _ k)
    | exact At_roundS_ret (@hide_o _ k)
    | exact At_nx (@hide_o _ k)
    | exact At_nxL (by decide +kernel) (by decide +kernel) (@hide_o _ k)
    | exact At_nxH (@hide_o _ k)
    | exact At_roundD_exit (@hide_o _ k)
    | exact At_roundD_ret (@hide_o _ k)
    | exact At_then_panic (@hide_o _ k)
    | exact At_block_panic (@hide_o _ k)
    | exact At_roundS_panic (@hide_o _ k)
    | exact At_roundD_panic (@hide_o _ k)
    | exact At_dqPanic (@hide_o _ k)
    | exact hide_t k (X_done rfl (List.Sublist.refl _))
    | exact C_doneD rfl (@hide_o _ k))
  | (refine Is_GAt ?_; first
    | exact G_guardT rfl (@hide_o _ k)
    | exact G_guardF rfl (@hide_o _ k)
    | exact G_guardTF rfl rfl (@hide_o _ k)
    | exact G_guardFT rfl rfl (@hide_o _ k)
    | exact G_guardUU rfl rfl (@hide_o _ k)
    | exact G_guardD rfl (hide_l k) (hide_r k))
  | (refine Is_GA ?_; first
    | exact GA_done (by decide +kernel) (@hide_o _ k)
    | (refine GA_pick rfl ?_; first
      | exact GX_mv rfl rfl rfl (by decide +kernel) (by decide +kernel) (by decide +kernel) (@hide_o _ k)
      | exact GX_fa rfl rfl rfl (by decide +kernel) (by decide +kernel) (by decide +kernel) (@hide_o _ k)
      | exact GX_cutLo rfl rfl rfl rfl (by decide +kernel) (by decide +kernel) (by decide +kernel) (@hide_o _ k)
      | exact GX_cutHi rfl rfl rfl rfl (by decide +kernel) (by decide +kernel) (by decide +kernel) (@hide_o _ k)
      | exact GX_cutBoth rfl rfl rfl rfl rfl (by decide +kernel) (by decide +kernel) (by decide +kernel) (@hide_o _ k))
    | exact GA_ready (by decide +kernel) (@hide_o _ k))
  | (refine Is_GH ?_; first
    | exact GH_done (by decide +kernel) (@hide_o _ k)
    | (refine GH_pick rfl ?_; first
      | exact HX_mv (by decide +kernel) rfl rfl rfl (@hide_o _ k)
      | exact HX_fa (by decide +kernel) rfl rfl rfl (@hide_o _ k)
      | exact HX_fany (by decide +kernel) rfl rfl rfl (@hide_o _ k)
      | exact HX_ldB (by decide +kernel) rfl rfl rfl rfl (@hide_o _ k)
      | exact HX_ldR (by decide +kernel) rfl rfl rfl (@hide_o _ k)
      | exact HX_ldA (by decide +kernel) rfl rfl rfl (@hide_o _ k)
      | exact HX_len (by decide +kernel) rfl rfl rfl (@hide_o _ k)
      | exact HX_bin (by decide +kernel) rfl rfl rfl rfl (@hide_o _ k)
      | exact HX_conv (by decide +kernel) rfl rfl rfl (@hide_o _ k)
      | exact HX_idx (by decide +kernel) rfl rfl rfl rfl (@hide_o _ k)
      | exact HX_ext (by decide +kernel) rfl rfl rfl rfl (@hide_o _ k)
      | exact HX_field (by decide +kernel) rfl rfl rfl rfl (@hide_o _ k)
      | exact HX_not (by decide +kernel) rfl rfl rfl (@hide_o _ k)
      | exact HX_cutLo (by decide +kernel) rfl rfl rfl rfl (@hide_o _ k)
      | exact HX_cutHi (by decide +kernel) rfl rfl rfl rfl (@hide_o _ k)
      | exact HX_cutBoth (by decide +kernel) rfl rfl rfl rfl rfl (@hide_o _ k))
    | exact GH_ready (by decide +kernel) (@hide_o _ k))
  | (refine Is_GHR ?_; first
    | exact hide_t k (GHR_end (by decide +kernel))
    | exact GHR_skip (by decide +kernel) (@hide_o _ k)
    | exact GHR_do rfl rfl (hide_l k) (hide_r k))
  | (refine Is_GAR ?_; first
    | exact hide_t k (GAR_end (by decide +kernel))
    | exact GAR_skip (by decide +kernel) (@hide_o _ k)
    | exact GAR_do rfl rfl (hide_l k) (hide_r k))
  | (refine Is_DQ ?_; first
    | exact DQ_nil rfl (@hide_o _ k)
    | (refine Is_dqIdx rfl ?_; first
      | (refine Is_dqNo rfl ?_; exact DR_idx rfl rfl rfl rfl rfl rfl (@hide_o _ k))
      | (refine Is_dqOn rfl rfl rfl ?_; exact DR_idxK rfl rfl rfl rfl rfl rfl rfl rfl (@hide_o _ k)))
    | (refine Is_dqIx rfl ?_; first
      | (refine Is_dqNo rfl ?_; exact DR_strIx rfl rfl rfl rfl rfl rfl (@hide_o _ k))
      | (refine Is_dqOn rfl rfl rfl ?_; exact DR_strIxK rfl rfl rfl rfl rfl rfl rfl rfl (@hide_o _ k)))
    | (refine Is_dqSl rfl ?_; first
      | exact DR_cutLo rfl rfl rfl rfl rfl rfl (@hide_o _ k)
      | exact DR_sliceG rfl (DR_cutLoT rfl rfl rfl rfl rfl rfl rfl (@hide_o _ k))
      | exact DR_cutHi rfl rfl rfl rfl rfl rfl (@hide_o _ k)
      | exact DR_cutBoth rfl rfl rfl rfl rfl rfl rfl (@hide_o _ k))
    | (refine Is_dqGd rfl ?_; first
      | exact DQ_splT rfl rfl rfl (@hide_o _ k)
      | exact DQ_splF rfl rfl rfl (@hide_o _ k)
      | exact DQ_spl rfl rfl rfl (hide_l k) (hide_r k))
    | exact DQ_al rfl (@hide_o _ k)
    | exact DQ_c rfl rfl rfl rfl (@hide_o _ k))) : X := hY (by unfold Hide; exact h)
end Go.Proofs.Ytnncjfphdcfimaa
/- Arguments of any types: what the row's reading of them gives. -/
set_option linter.unusedVariables false
set_option linter.unusedSimpArgs false
namespace Go.Proofs.Ytnncjfphdcfimaa
open Go.RowKit Go.ChangeShapes Go.WideShapes Go.ChangeAt

/-! ### Numbers of 16 and 32 digits -/
instance eltU16 : Elt (BitVec 16) where
  sz := 1
  enc n := [.int .u16 (n.toNat : Int)]
  val n := .int .u16 (n.toNat : Int)
  cells _ := rfl
  len _ := rfl
  one _ c h := by simp at h; subst h; rfl
  pos := by decide
instance : Scal (BitVec 16) := ⟨fun _ => rfl, rfl⟩
instance eltU32 : Elt (BitVec 32) where
  sz := 1
  enc n := [.int .u32 (n.toNat : Int)]
  val n := .int .u32 (n.toNat : Int)
  cells _ := rfl
  len _ := rfl
  one _ c h := by simp at h; subst h; rfl
  pos := by decide
instance : Scal (BitVec 32) := ⟨fun _ => rfl, rfl⟩
instance valR_u16 (a : BitVec 16) : ValR a (.int .u16 (a.toNat : Int)) := ⟨rfl⟩
instance valR_u32 (a : BitVec 32) : ValR a (.int .u32 (a.toNat : Int)) := ⟨rfl⟩
theorem u32_of {n : Int} (h : (Lit.int .u32 n).wf = true) : 0 ≤ n ∧ n ≤ 4294967295 := by
  simp only [Lit.wf, IntKind.min, IntKind.max, IntKind.signed, IntKind.bits, Bool.and_eq_true, decide_eq_true_eq] at h
  simp at h
  omega

/-! ### Arrays -/
structure Ar (n : Nat) (α : Type) where
  l : List α
  len : l.length = n
class PosN (n : Nat) : Prop where
  h : 0 < n
instance {n : Nat} : PosN (n + 1) := ⟨by omega⟩
theorem encs_cells {α : Type} [Elt α] (l : List α) : (Value.agg (encs l).toArray).cells = (encs l).toArray := rfl
instance eltAr {n : Nat} {α : Type} [Elt α] [PosN n] : Elt (Ar n α) where
  sz := n * Elt.sz α
  enc x := encs x.l
  val x := .agg (encs x.l).toArray
  cells _ := rfl
  len x := by rw [encs_length, x.len]
  one x c h := encs_one _ c h
  pos := Nat.mul_pos PosN.h Elt.pos
instance {n : Nat} {α : Type} [Elt α] [PosN n] : Aggr (Ar n α) := ⟨fun _ => rfl⟩
instance dpAr {n : Nat} {α : Type} [Dp α] : Dp (Ar n α) := ⟨fun w O x => ∀ y ∈ x.l, Dp.tru w O y, fun hst hO h y hy => Dp.lift hst hO (h y hy)⟩
instance truL_ar {w0 : World} {O : List Nat} {n : Nat} {α : Type} [Dp α] {x : Ar n α} [h : Tru w0 O x] : TruL w0 O x.l := ⟨h.h⟩

/-! ### Numbers are of their kinds -/
class Rng (α : Type) where
  rng : α → Prop
instance rngInt : Rng Int := ⟨fun a => -9223372036854775808 ≤ a ∧ a ≤ 9223372036854775807⟩
instance rngBv (n : Nat) : Rng (BitVec n) := ⟨fun _ => True⟩
instance rngBool : Rng Bool := ⟨fun _ => True⟩
instance rngStr : Rng ByteArray := ⟨fun s => s.size ≤ maxLen⟩
instance rngSl {α : Type} [Rng α] : Rng (Sl α) := ⟨fun s => ∀ x ∈ s.l, Rng.rng x⟩
instance rngAr {n : Nat} {α : Type} [Rng α] : Rng (Ar n α) := ⟨fun s => ∀ x ∈ s.l, Rng.rng x⟩

/-! ### Opening -/
class CellsN (P : Program) (t : TypeId) (n : outParam Nat) : Prop where
  eq : P.cellsOf t = n
class Opn (P : Program) (t : TypeId) (α : outParam Type) [i : outParam (Elt α)] [j : outParam (Dp α)] [k : outParam (Rng α)] : Prop where
  cells : P.cellsOf t = Elt.sz α
  opn : ∀ {H : Type} {enc : TypeId × Value → H} {W : World} {fuel : Nat} {cs : List Value} {x : DataW H × List MemPlace}, DataW.trod enc P W 0 (fun _ => true) true fuel t cs = some x → ∃ a : α, cs = Elt.enc a ∧ Rng.rng a ∧ Dp.tru W [] a
  val : ∀ {W : World} {r : _root_.Go.Reach} {base : Nat} {v : Value} {a : α}, Value.okWide P W r base t v → v.cells.toList = Elt.enc a → v = Elt.val a
section
variable {P : Program} {t e : TypeId} {α : Type}
theorem val_scal {u : TypeDesc} {α : Type} [Elt α] [hs : Scal α] (ht : P.underlying t = some u) (hu : match u with | .bool | .string | .int _ | .slice _ => True | _ => False) {W : World} {r : _root_.Go.Reach} {base : Nat} {v : Value} {a : α} (h : Value.okWide P W r base t v) (hc : v.cells.toList = Elt.enc a) : v = Elt.val a := by
  rw [hs.enc] at hc
  cases v <;> first
    | (simp [Value.cells] at hc; exact hc)
    | (cases u <;> simp_all [Value.okWide, Cell.okWide, Cell.ok])
instance opn_int [h1 : Und P t (.int .i64)] [h2 : CellsN P t 1] : Opn P t Int where
  cells := h2.eq
  opn h := by
    obtain ⟨n, rfl, -, hw⟩ := DataW.trod_int h1.eq h
    exact ⟨n, rfl, i64_of hw, trivial⟩
  val h := val_scal h1.eq trivial h
instance opn_u64 [h1 : Und P t (.int .u64)] [h2 : CellsN P t 1] : Opn P t (BitVec 64) where
  cells := h2.eq
  opn h := by
    obtain ⟨n, rfl, -, hw⟩ := DataW.trod_int h1.eq h
    obtain ⟨x, rfl⟩ := u64_of hw
    exact ⟨x, rfl, trivial, trivial⟩
  val h := val_scal h1.eq trivial h
instance opn_u8 [h1 : Und P t (.int .u8)] [h2 : CellsN P t 1] : Opn P t (BitVec 8) where
  cells := h2.eq
  opn h := by
    obtain ⟨n, rfl, -, hw⟩ := DataW.trod_int h1.eq h
    obtain ⟨x, rfl⟩ := u8_of hw
    exact ⟨x, rfl, trivial, trivial⟩
  val h := val_scal h1.eq trivial h
instance opn_u16 [h1 : Und P t (.int .u16)] [h2 : CellsN P t 1] : Opn P t (BitVec 16) where
  cells := h2.eq
  opn h := by
    obtain ⟨n, rfl, -, hw⟩ := DataW.trod_int h1.eq h
    have := u16_of hw
    exact ⟨BitVec.ofInt 16 n, by simp [Elt.enc]; omega, trivial, trivial⟩
  val h := val_scal h1.eq trivial h
instance opn_u32 [h1 : Und P t (.int .u32)] [h2 : CellsN P t 1] : Opn P t (BitVec 32) where
  cells := h2.eq
  opn h := by
    obtain ⟨n, rfl, -, hw⟩ := DataW.trod_int h1.eq h
    have := u32_of hw
    exact ⟨BitVec.ofInt 32 n, by simp [Elt.enc]; omega, trivial, trivial⟩
  val h := val_scal h1.eq trivial h
instance opn_bool [h1 : Und P t .bool] [h2 : CellsN P t 1] : Opn P t Bool where
  cells := h2.eq
  opn h := by
    obtain ⟨b, rfl, -⟩ := DataW.trod_bool h1.eq h
    exact ⟨b, rfl, trivial, trivial⟩
  val h := val_scal h1.eq trivial h
instance opn_str [h1 : Und P t .string] [h2 : CellsN P t 1] : Opn P t ByteArray where
  cells := h2.eq
  opn h := by
    obtain ⟨s, rfl, -, hw⟩ := DataW.trod_string h1.eq h
    exact ⟨s, rfl, hw, trivial⟩
  val h := val_scal h1.eq trivial h
theorem list_of {α : Type} {p : Nat → α → Prop} : ∀ (n : Nat), (∀ i, i < n → ∃ y, p i y) → ∃ l : List α, l.length = n ∧ ∀ i (h : i < l.length), p i l[i]
  | 0, _ => ⟨[], rfl, fun i h => by simp at h⟩
  | n + 1, h => by
    obtain ⟨l, hl, hp⟩ := list_of n (fun i hi => h i (by omega))
    obtain ⟨y, hy⟩ := h n (by omega)
    refine ⟨l ++ [y], by simp [hl], fun i hi => ?_⟩
    rw [List.getElem_append]
    split
    · exact hp i _
    · have : i = n := by simp at hi; omega
      subst this
      simpa using hy
theorem encs_at [Elt α] {l : List α} {k : Nat} {u : Value} (h : (encs l)[k]? = some u) : ∃ i o, ∃ hi : i < l.length, o < Elt.sz α ∧ k = i * Elt.sz α + o ∧ (Elt.enc l[i])[o]? = some u := by
  have hp : 0 < Elt.sz α := Elt.pos
  have hk := (List.getElem?_eq_some_iff.1 h).1
  rw [encs_length] at hk
  have hi : k / Elt.sz α < l.length := (Nat.div_lt_iff_lt_mul hp).2 hk
  have ho : k % Elt.sz α < Elt.sz α := Nat.mod_lt _ hp
  have e : k = k / Elt.sz α * Elt.sz α + k % Elt.sz α := by rw [Nat.mul_comm]; exact (Nat.div_add_mod _ _).symm
  refine ⟨_, _, hi, ho, e, ?_⟩
  rw [← encs_get hi ho, ← e]
  exact h
instance opn_slice [i : Elt α] [j : Dp α] [k : Rng α] [h1 : Und P t (.slice e)] [h2 : CellsN P t 1] [h3 : Opn P e α] : Opn P t (Sl α) where
  cells := h2.eq
  opn {H enc W fuel cs x} h := by
    rcases DataW.trod_slice h1.eq h with ⟨rfl, _⟩ | ⟨a, len, cap, elems, rest, n, rfl, rfl, -, -, hl, hm, hlen, hel, -, -⟩
    · exact ⟨slNil, rfl, fun y hy => by simp [slNil] at hy, (inferInstance : Tru W [] (slNil : Sl α)).h⟩
    · have key : ∀ i, i < len → ∃ y : α, (∀ o u, (Elt.enc y)[o]? = some u → W.cell? (a.add (i * Elt.sz α + o)) = some u) ∧ Rng.rng y ∧ Dp.tru W [] y := by
        intro i hi
        have h4 := hel i hi
        rw [List.getElem?_eq_getElem (by omega)] at h4
        rw [Option.bind_eq_some_iff] at h4
        obtain ⟨cs', h5, h6⟩ := h4
        obtain ⟨y, rfl, hr, hd⟩ := h3.opn h6
        obtain ⟨_, h7, h8⟩ := World.cells?_some h5
        refine ⟨y, fun o u ho => ?_, hr, hd⟩
        have := h8 o (by have := (List.getElem?_eq_some_iff.1 ho).1; omega)
        rw [h3.cells, addr_addadd] at this
        rw [this, ho]
      obtain ⟨l, hll, hp⟩ := list_of len key
      refine ⟨⟨.slice (some a) len cap, l, rfl⟩, rfl, fun y hy => ?_, ⟨RdO.old ⟨some a, len, cap, rfl, by rw [encs_length, hll], hl, hm, fun _ => ⟨a, rfl, fun q u hu => ?_⟩⟩, fun y hy => ?_⟩⟩
      · obtain ⟨i, hi, rfl⟩ := List.getElem_of_mem hy
        exact (hp i hi).2.1
      · obtain ⟨i, o, hi, ho, rfl, hu'⟩ := encs_at hu
        exact (hp i hi).1 o u hu'
      · obtain ⟨i, hi, rfl⟩ := List.getElem_of_mem hy
        exact (hp i hi).2.2
  val h := val_scal h1.eq trivial h
theorem encs_of [Elt α] : ∀ (l : List α) (cs : List Value), cs.length = l.length * Elt.sz α → (∀ i (h : i < l.length), (cs.drop (i * Elt.sz α)).take (Elt.sz α) = Elt.enc l[i]) → cs = encs l
  | [], cs, h, _ => by simp at h; subst h; rfl
  | a :: l, cs, h, hp => by
    rw [List.length_cons, Nat.add_mul, Nat.one_mul] at h
    have h0 := hp 0 (by simp)
    simp only [Nat.zero_mul, List.drop_zero, List.getElem_cons_zero] at h0
    rw [encs_cons, ← h0, ← encs_of l (cs.drop (Elt.sz α)) (by rw [List.length_drop]; omega) (fun i hi => ?_), List.take_append_drop]
    have := hp (i + 1) (by simp; omega)
    rw [Nat.add_mul, Nat.one_mul, Nat.add_comm, ← List.drop_drop] at this
    simpa using this
theorem val_aggr {α : Type} [Elt α] [hs : Aggr α] {W : World} {r : _root_.Go.Reach} {base : Nat} {v : Value} {a : α} (hu : ∃ u, P.underlying t = some u ∧ match u with | .struct _ | .array _ _ => True | _ => False) (h : Value.okWide P W r base t v) (hc : v.cells.toList = Elt.enc a) : v = Elt.val a := by
  obtain ⟨u, hu, hm⟩ := hu
  rw [hs.val, ← hc]
  cases u <;> simp only [Value.okWide, hu] at h hm <;> (obtain ⟨cs, rfl, _⟩ := h; simp [Value.cells])
instance opn_array {n : Nat} [PosN n] [i : Elt α] [j : Dp α] [k : Rng α] [h1 : Und P t (.array n e)] {c : Nat} [h2 : CellsN P t c] [h3 : Opn P e α] [h4 : Fct (c = n * Elt.sz α)] : Opn P t (Ar n α) where
  cells := by rw [h2.eq]; exact h4.out
  opn {H enc W fuel cs x} h := by
    obtain ⟨xs, m, rfl, rfl, hl, hxl, hat⟩ := DataW.trod_array h1.eq h
    rw [h3.cells] at hat
    rw [h2.eq, h4.out] at hl
    have key : ∀ i, i < n → ∃ y : α, (cs.drop (i * Elt.sz α)).take (Elt.sz α) = Elt.enc y ∧ Rng.rng y ∧ Dp.tru W [] y := by
      intro i hi
      have h5 := hat i hi
      rw [List.getElem?_eq_getElem (by omega)] at h5
      exact h3.opn h5
    obtain ⟨l, hll, hp⟩ := list_of n key
    refine ⟨⟨l, hll⟩, encs_of l cs (by rw [hl, hll]) (fun i hi => (hp i hi).1), fun y hy => ?_, fun y hy => ?_⟩
    · obtain ⟨i, hi, rfl⟩ := List.getElem_of_mem hy
      exact (hp i hi).2.1
    · obtain ⟨i, hi, rfl⟩ := List.getElem_of_mem hy
      exact (hp i hi).2.2
  val h := val_aggr ⟨_, h1.eq, trivial⟩ h
/-- a struct's field -/
theorem opn_field {H : Type} {enc : TypeId × Value → H} {W : World} {m i off ft n : Nat} {fs : Array Field} {cs : List Value} {xs : List (DataW H × List MemPlace)} [Elt α] [Dp α] [Rng α] [h3 : Opn P ft α]
    (hf : ∀ (i : Nat) (f : Field), fs[i]? = some f → DataW.trod enc P W 0 (fun _ => true) true m f.type ((cs.drop f.offset).take (P.cellsOf f.type)) = xs[i]?)
    (h : (fs[i]?).map (fun f => (f.offset, f.type)) = some (off, ft)) (hi : i < xs.length) (hn : Elt.sz α = n) : ∃ a : α, (cs.drop off).take n = Elt.enc a ∧ Rng.rng a ∧ Dp.tru W [] a := by
  cases hfi : fs[i]? with
  | none => rw [hfi] at h; simp at h
  | some f =>
    rw [hfi] at h
    simp only [Option.map_some, Option.some.injEq, Prod.mk.injEq] at h
    obtain ⟨rfl, rfl⟩ := h
    have h5 := hf i f hfi
    rw [List.getElem?_eq_getElem hi, h3.cells, hn] at h5
    exact h3.opn h5
theorem cells_step {cs e : List Value} {o n : Nat} (h : (cs.drop o).take n = e) : cs.drop o = e ++ cs.drop (o + n) := by
  rw [← h, ← List.drop_drop, List.take_append_drop]
/-- an argument -/
theorem opn_arg {H : Type} {enc : TypeId × Value → H} {W : World} {r : _root_.Go.Reach} {base : Nat} {v : Value} {d : DataW H} {p : List MemPlace} [Elt α] [Dp α] [Rng α] [h : Opn P t α] (hv : Value.okWide P W r base t v) (hd : DataW.Trod enc P W 0 (fun _ => true) true t v d p) :
    ∃ a : α, v = Elt.val a ∧ Rng.rng a ∧ Tru W [] a := by
  obtain ⟨fuel, hd⟩ := hd
  obtain ⟨a, hc, hr, ht⟩ := h.opn hd
  exact ⟨a, h.val hv hc, hr, ⟨ht⟩⟩
end
end Go.Proofs.Ytnncjfphdcfimaa
/- Structs of fields that are data: elements of slices, their fields. -/
set_option linter.unusedVariables false
set_option linter.unusedSimpArgs false
namespace Go.Proofs.Ytnncjfphdcfimaa
open Go.RowKit
instance (priority := low) decW_of {w0 : World} {O : List Nat} {m : List As} {α : Type} [Elt α] {v : Value} {a : α} {p : Prop} [h : DecE α v a p] [hp : Fct p] : DecW w0 O m α v a := ⟨(h.eq hp.out).symm⟩
instance fct_true : Fct True := ⟨trivial⟩
instance zeroE_str : ZeroE ByteArray [.string ⟨#[]⟩] ⟨#[]⟩ := ⟨rfl⟩
instance decE_str (b : ByteArray) : DecE ByteArray (.string b) b True := ⟨fun _ => rfl⟩
instance decE_u16 (x : BitVec 16) : DecE (BitVec 16) (.int .u16 (x.toNat : Int)) x True := ⟨fun _ => rfl⟩
instance decE_u32 (x : BitVec 32) : DecE (BitVec 32) (.int .u32 (x.toNat : Int)) x True := ⟨fun _ => rfl⟩
section
variable {P : Program} {w0 : World} {O : List Nat} {m : List As} {t : TypeId} {v : Value} {j off off' : Nat} {α β γ : Type} [Elt α] [Elt β] [Elt γ] {l : List α} {f : α → β} {g : β → γ}
theorem fldE_trans (hf : FldE α off β f) (hg : FldE β off' γ g) : FldE α (off + off') γ (fun a => g (f a)) := ⟨fun a => by
  have h1 := hf.eq a
  have h2 := hg.eq (f a)
  have h3 := congrArg List.length h2
  rw [Elt.len, List.length_take, List.length_drop, Elt.len] at h3
  rw [← h2, ← h1, ← List.drop_drop, List.drop_take, List.take_take]
  congr 1
  omega⟩
instance ldR_field2 [h : RdR w0 O m v l] [hj : Fct (j < l.length)] [hf : FldE α off β f] [hg : FldE β off' γ g] [hL : Lay P t γ] {u' : Value} [hv : ValR (g (f (l[j]'hj.out))) u'] : LdR P w0 O m t (((elP α v j).add off).add off') u' := ⟨fun w hw => by
  rw [addr_addadd]
  haveI := fldE_trans hf hg
  exact (ldR_field (off := off + off') (f := fun a => g (f a))).ld w hw⟩
end
end Go.Proofs.Ytnncjfphdcfimaa
/- A place where several ways meet, at a base of its own. -/
set_option linter.unusedVariables false
set_option linter.unusedSimpArgs false
namespace Go.Proofs.Ytnncjfphdcfimaa
open Go.RowKit

def CutD (N : Nat) (D : List Deferred) (w0 : World) (O : List Nat) {ι : Type} (Φ : World → List Nat → ι → Prop) (S : ι → List (Nat × Value)) (M : ι → List As) : Exit → Act → World → Prop :=
  fun e a w => e = .normal ∧ ∃ i, Φ w (foots (M i)) i ∧ Has N (S i) a ∧ a.defers = D ∧ St w0 O (M i) w
/-- .. some i with Φ i -/
theorem GC_cutD {ι : Type} {ro : Option Nat} {P : Program} {N : Nat} {D : List Deferred} {w0 : World} {O : List Nat} {s : List (Nat × Value)} {m : List As} {Q : Exit → Act → World → Prop} {x : Code} (Φ : World → List Nat → ι → Prop) (S : ι → List (Nat × Value)) (M : ι → List As)
    (h : GC ro P N D w0 O x s m (CutD N D w0 O Φ S M)) (k : ∀ i w1 [Reb w0 O w1 (foots (M i))], Φ w1 (foots (M i)) i → At N D w1 (foots (M i)) .normal (S i) (M i) Q) : GC ro P N D w0 O x s m Q := fun a w hs hd hw => Code.wpIn_mono (fun e a w hq => by
  obtain ⟨rfl, i, hi, h1, h2, h3⟩ := hq
  haveI := Reb.of h3
  exact k i w hi a w h1 h2 h3.now) (h a w hs hd hw)
theorem At_cutD {ι : Type} {N : Nat} {D : List Deferred} {w0 w1 : World} {O O1 : List Nat} {s : List (Nat × Value)} {m : List As} {Φ : World → List Nat → ι → Prop} {S : ι → List (Nat × Value)} {M : ι → List As} (i : ι) (hi : ∀ w [Reb w1 O1 w (foots (M i))], Φ w (foots (M i)) i) (hs : subs s (S i)) [hb : RebT w0 O w1 O1] [hm : SubM m (M i)] :
    At N D w1 O1 .normal s m (CutD N D w0 O Φ S M) := fun a w h1 h2 h3 => by
  have h4 := hm.ent.st h3
  haveI := Reb.of h4
  exact ⟨rfl, i, hi w, h1.sub hs.at_, h2, hb.h _ _ h4⟩
theorem At_sub {N : Nat} {D : List Deferred} {w0 : World} {O : List Nat} {s s' : List (Nat × Value)} {m m' : List As} {Q : Exit → Act → World → Prop} {e : Exit} (hs : subs s s') (hm : List.Sublist m' m) (h : At N D w0 O e s' m' Q) : At N D w0 O e s m Q :=
  fun a w hs' hd hm' => h a w (hs'.sub hs.at_) hd (hm'.drop hm)
end Go.Proofs.Ytnncjfphdcfimaa
