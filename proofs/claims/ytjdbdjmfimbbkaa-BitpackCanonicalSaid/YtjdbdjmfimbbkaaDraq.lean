/- Regions that draw their order: memory that the chain alone passes on. -/
import Derived.Test.YtjdbdjmfimbbkaaDraw
set_option linter.unusedVariables false
set_option linter.unusedSimpArgs false
namespace Go.Proofs.Ytjdbdjmfimbbkaa
open Go.RowKit

def CPostQ (N : Nat) (D : List Deferred) (w0 : World) (O : List Nat) (d : Nat) (m : List As) (R : Value → List As → Prop) : Exit → Act → World → Prop :=
  fun e a w => e = .normal ∧ a.defers = D ∧ ∃ v q, a.tmps.getD d undef = v ∧ St w0 O (q ++ m) w ∧ R v q

/-- q: what the chain alone passes on; m: what is left alone from here on -/
def DQ (ro : Option Nat) (P : Program) (N : Nat) (D : List Deferred) (w0 : World) (O : List Nat) (ops : Array Oper) (L : List Oper) (cs : List Nat) (k : Nat) (Q : Exit → Act → World → Prop) : List Nat → List (Nat × Value) → List As → List As → Prop
  | [], s, q, m => G ro P N D w0 O ops (L.drop k) s (q ++ m) Q
  | i :: r, s, q, m => ∃ o d, L[i]? = some o ∧ o.dst = some d ∧
    if cs.contains i = true then G ro P N D w0 O ops [o] s (q ++ m) (CPostQ N D w0 O d m fun v q' => DQ ro P N D w0 O ops L cs k Q r ((d, v) :: s) q' m)
    else ∃ v q1 m1, (q1 = q ∧ m1 = m ∨ q1 = [] ∧ m1 = q ++ m) ∧ (∀ m', G ro P N D w0 O ops [o] s (m1 ++ m') (XPost N D w0 O d v (m1 ++ m'))) ∧ DQ ro P N D w0 O ops L cs k Q r ((d, v) :: s) q1 m1

/-! ### The rest: any order -/
section
variable {ro : Option Nat} {P : Program} {N : Nat} {D : List Deferred} {w0 : World} {O : List Nat} {L : List Oper} {order cs : List Nat} {k : Nat} {Q : Exit → Act → World → Prop} {s0 : List (Nat × Value)}

structure InvQ (ro : Option Nat) (P : Program) (N : Nat) (D : List Deferred) (w0 : World) (O : List Nat) (L : List Oper) (order cs : List Nat) (k : Nat) (Q : Exit → Act → World → Prop) (r pend : List Nat) (s : List (Nat × Value)) (qm m : List As) (l : Array Bool) (a : Act) (w : World) : Prop where
  size : l.size = L.length
  closed : Closed L l
  part : ∀ i, i < L.length → (¬ Lst l i ↔ i ∈ pend ∨ i ∈ r ∨ k ≤ i)
  sub : ∀ i, i ∈ pend ∨ i ∈ r → i ∈ order
  nodup : (pend ++ r).Nodup
  pd : ∀ i ∈ pend, Pend ro P N D w0 O L s m i
  agree : ∀ t u, look s t = some u → (∀ i ∈ pend, dstAt L i ≠ some t) → a.tmps.getD t undef = u
  fresh : ∀ i ∈ r, ∀ d, dstAt L i = some d → look s d = none
  asize : a.tmps.size = N
  adef : a.defers = D
  st : St w0 O (qm ++ m) w
  dr : DQ ro P N D w0 O L.toArray L cs k Q r s qm m
  chain : ChainOK L cs r
  keys : keysB N s = true

theorem InvQ.absorb (S : Stat L order cs k N s0) : ∀ (r pend : List Nat) (s : List (Nat × Value)) (qm m : List As) (l : Array Bool) (a : Act) (w : World), InvQ ro P N D w0 O L order cs k Q r pend s qm m l a w →
    ∃ r' pend' s' q' m', InvQ ro P N D w0 O L order cs k Q r' pend' s' q' m' l a w ∧ pend'.length + r'.length = pend.length + r.length ∧ (r' = [] ∨ ∃ c r'', r' = c :: r'' ∧ cs.contains c = true) := by
  intro r
  induction r with
  | nil => exact fun pend s qm m l a w h => ⟨[], pend, s, qm, m, h, rfl, .inl rfl⟩
  | cons i r ih =>
    intro pend s qm m l a w h
    by_cases hc : cs.contains i = true
    · exact ⟨i :: r, pend, s, qm, m, h, rfl, .inr ⟨i, r, rfl, hc⟩⟩
    · have hdr := h.dr
      obtain ⟨o, d, h1, h2, h3⟩ := hdr
      rw [if_neg hc] at h3
      obtain ⟨v, q1, m1, hqm, h4, h5⟩ := h3
      have hdi : dstAt L i = some d := by rw [dstAt, h1]; exact h2
      have hio : i ∈ order := h.sub i (.inr List.mem_cons_self)
      obtain ⟨d', hd', hdN, _⟩ := S.dst i hio
      rw [hdi] at hd'
      cases hd'
      have hf := h.fresh i List.mem_cons_self d hdi
      have hn := h.nodup
      have hinv : InvQ ro P N D w0 O L order cs k Q r (i :: pend) ((d, v) :: s) q1 m1 l a w := by
        refine ⟨h.size, h.closed, fun j hj => ?_, fun j hj => h.sub j ?_, ?_, fun j hj => ?_, fun t u hu hp => ?_, fun j hj e he => ?_, h.asize, h.adef, (by rcases hqm with ⟨rfl, rfl⟩ | ⟨rfl, rfl⟩; exact h.st; exact h.st), h5, h.chain.2, ?_⟩
        · rw [h.part j hj]
          simp only [List.mem_cons]
          constructor
          · rintro (h | h | h)
            · exact .inl (.inr h)
            · rcases h with h | h
              · exact .inl (.inl h)
              · exact .inr (.inl h)
            · exact .inr (.inr h)
          · rintro (h | h | h)
            · rcases h with h | h
              · exact .inr (.inl (.inl h))
              · exact .inl h
            · exact .inr (.inl (.inr h))
            · exact .inr (.inr h)
        · simp only [List.mem_cons] at hj ⊢
          rcases hj with (h | h) | h
          · exact .inr (.inl h)
          · exact .inl h
          · exact .inr (.inr h)
        · exact (List.perm_middle (l₁ := pend)).nodup_iff.1 hn
        · rcases List.mem_cons.1 hj with rfl | hj
          · refine ⟨o, d, v, s, m1, h1, h2, by simp [look], h.keys, fun t u hu => ?_, ⟨[], by simp⟩, h4⟩
            unfold look
            have : ¬ d = t := fun e => by subst e; rw [hf] at hu; cases hu
            rw [beq_no this]
            exact hu
          · rcases hqm with ⟨rfl, rfl⟩ | ⟨rfl, rfl⟩
            · exact (h.pd j hj).grow hf []
            · exact (h.pd j hj).grow hf _
        · have hne : ¬ d = t := fun e => hp i List.mem_cons_self (by rw [hdi, e])
          unfold look at hu
          rw [beq_no hne] at hu
          exact h.agree t u hu fun j hj => hp j (List.mem_cons_of_mem _ hj)
        · have hne : ¬ d = e := fun e' => by
            subst e'
            have := S.apart i hio j (h.sub j (.inr (List.mem_cons_of_mem _ hj))) d hdi he
            subst this
            rw [List.nodup_append] at hn
            exact (List.nodup_cons.1 hn.2.1).1 hj
          unfold look
          rw [beq_no hne]
          exact h.fresh j (List.mem_cons_of_mem _ hj) e he
        · simp only [keysB, Bool.and_eq_true]
          exact ⟨blt_iff.2 hdN, h.keys⟩
      obtain ⟨r', pend', s', q', m', h6, h7, h8⟩ := ih _ _ _ _ _ _ _ hinv
      exact ⟨r', pend', s', q', m', h6, by simp at h7 ⊢; omega, h8⟩

theorem InvQ.sound (S : Stat L order cs k N s0) : ∀ (n : Nat) (r pend : List Nat) (s : List (Nat × Value)) (qm m : List As) (l : Array Bool) (a : Act) (w : World), InvQ ro P N D w0 O L order cs k Q r pend s qm m l a w →
    n = pend.length + r.length + (L.length - k) → wpAnyIn (FW ro) 0 P .any L.toArray Q n l a w := by
  intro n
  induction n with
  | zero =>
    intro r pend s qm m l a w h hn
    have hr : r = [] := List.eq_nil_of_length_eq_zero (by omega)
    have hp : pend = [] := List.eq_nil_of_length_eq_zero (by omega)
    subst hr hp
    have hs : Has N s a := ⟨h.asize, fun t u hu => h.agree t u hu (by simp)⟩
    refine tail_sound S 0 k l a w (by have := S.len; omega) (Nat.le_refl _) h.size (fun i => ?_) (h.dr a w hs h.adef h.st)
    by_cases hi : i < L.length
    · have := h.part i hi
      simp only [List.not_mem_nil, false_or] at this
      constructor
      · intro hl; exact Nat.lt_of_not_le fun hk => (this.2 hk) hl
      · intro hk; exact Classical.byContradiction fun hl => by have := this.1 hl; omega
    · have hne : ¬ Lst l i := by unfold Lst; simp [Array.getD, h.size, hi]
      have := S.len
      constructor
      · intro h; exact absurd h hne
      · intro h; omega
  | succ n ih =>
    intro r pend s qm m l a w h hn
    obtain ⟨r, pend, s, qm, m, h, hlen, hr⟩ := h.absorb S
    rw [← hlen] at hn
    by_cases hdone : pend = [] ∧ r = []
    · obtain ⟨rfl, rfl⟩ := hdone
      have hs : Has N s a := ⟨h.asize, fun t u hu => h.agree t u hu (by simp)⟩
      refine tail_sound S (n + 1) k l a w (by have := S.len; simp at hn; omega) (Nat.le_refl _) h.size (fun i => ?_) (h.dr a w hs h.adef h.st)
      by_cases hi : i < L.length
      · have := h.part i hi
        simp only [List.not_mem_nil, false_or] at this
        constructor
        · intro hl; exact Nat.lt_of_not_le fun hk => (this.2 hk) hl
        · intro hk; exact Classical.byContradiction fun hl => by have := this.1 hl; omega
      · have hne : ¬ Lst l i := by unfold Lst; simp [Array.getD, h.size, hi]
        have := S.len
        constructor
        · intro h; exact absurd h hne
        · intro h; omega
    · -- one that is left
      have hex : ∃ q, q ∈ pend ∨ q ∈ r := by
        cases pend with
        | cons q _ => exact ⟨q, .inl List.mem_cons_self⟩
        | nil =>
          cases r with
          | cons q _ => exact ⟨q, .inr List.mem_cons_self⟩
          | nil => exact absurd ⟨rfl, rfl⟩ hdone
      obtain ⟨q, hq⟩ := hex
      have hqk : q < k := S.ordLt q (h.sub q hq)
      have hqL : q < L.length := Nat.lt_of_lt_of_le hqk S.len
      have hqu : ¬ Lst l q := (h.part q hqL).2 (hq.elim .inl fun h => .inr (.inl h))
      refine ⟨fun h0 => absurd h0 (some_ready S h.size q hqL hqu), fun i hi => ?_⟩
      rw [ready_iff h.size] at hi
      obtain ⟨h1, h2, h3⟩ := hi
      have hil : i < l.size := by rw [h.size]; exact h1
      have hik : ¬ k ≤ i := fun hk => hqu (sink_all S h.closed hk h1 h3 (i - q) q rfl (by omega))
      have hcl := h.closed.set hil h3
      have hsz : (l.setIfInBounds i true).size = L.length := by simpa using h.size
      -- what an operation looks at is there
      have there : ∀ (si : List (Nat × Value)) (o : Oper), L[i]? = some o → i ∈ order → (∀ t u, look si t = some u → look s t = some u) → ∀ t ∈ o.looksAt L.toArray, ∀ u, look si t = some u → a.tmps.getD t undef = u := by
        intro si o ho hio hsub t ht u hu
        refine h.agree t u (hsub t u hu) fun p hp hpd => ?_
        have hpo := h.sub p (.inl hp)
        have := S.looks i hio p hpo t hpd (by rw [looksAtAt, ho]; exact ht)
        exact ((h.part p (Nat.lt_of_lt_of_le (S.ordLt p hpo) S.len)).2 (.inl hp)) (h3 p this)
      rcases (h.part i h1).1 h2 with hip | hir | hk
      · -- one whose value is known
        obtain ⟨o, d, v, si, mi, p1, p2, p3, p4, p5, ⟨m', p6⟩, p7⟩ := h.pd i hip
        have hio := h.sub i (.inl hip)
        have hdi : dstAt L i = some d := by rw [dstAt, p1]; exact p2
        obtain ⟨d', hd', hdN, _⟩ := S.dst i hio
        rw [hdi] at hd'
        cases hd'
        have hla := there si o p1 hio p5
        have p6' : List.Perm (qm ++ m) (mi ++ (m' ++ qm)) := List.perm_append_comm.trans ((p6.append_right qm).trans (by rw [List.append_assoc]))
        have hz := fillA_size si a
        refine step_congr (Q1 := XPost N D w0 O d v (mi ++ (m' ++ qm))) (a' := fillA si a) (by simpa using p1) (S.plain i o p1) hz (fun t ht => fillA_get h.asize p4 (hla t ht)) (fun e b u hb => ⟨hb.1, by rw [hb.2.1, fillA_defers, h.adef]⟩)
          (p7 (m' ++ qm) _ _ (fillA_has si a h.asize p4) (by rw [fillA_defers]; exact h.adef) (h.st.perm p6')) (fun u w' hb => ?_)
        obtain ⟨_, hb2, hb3, hb4⟩ := hb
        rw [p2, put_same (by rw [hz, h.asize]; exact hdN)] at hb3
        subst hb3
        rw [p2]
        have hnd := h.nodup
        rw [List.nodup_append] at hnd
        refine ih r (pend.erase i) s qm m _ _ _ ⟨hsz, hcl, fun j hj => ?_, fun j hj => h.sub j (hj.imp List.mem_of_mem_erase id), ?_, fun j hj => h.pd j (List.mem_of_mem_erase hj), fun t u' hu hp => ?_, h.fresh, by simp [Act.put, h.asize], by rw [put_defers]; exact h.adef, hb4.perm p6'.symm, h.dr, h.chain, h.keys⟩ ?_
        · rw [lst_set hil, not_or, h.part j hj, hnd.1.mem_erase_iff]
          constructor
          · rintro ⟨hne, hh⟩; exact hh.imp (fun h => ⟨hne, h⟩) id
          · rintro (⟨hne, hh⟩ | hh | hh)
            · exact ⟨hne, .inl hh⟩
            · exact ⟨fun e => hnd.2.2 i hip j hh e.symm, .inr (.inl hh)⟩
            · exact ⟨fun e => hik (e ▸ hh), .inr (.inr hh)⟩
        · rw [List.nodup_append]
          exact ⟨hnd.1.erase i, hnd.2.1, fun x hx y hy => hnd.2.2 x (List.mem_of_mem_erase hx) y hy⟩
        · by_cases e : d = t
          · subst e
            rw [p3] at hu
            cases hu
            exact put_same (by rw [h.asize]; exact hdN)
          · rw [put_other e]
            refine h.agree t u' hu fun j hj hjd => ?_
            by_cases eji : j = i
            · subst eji; rw [hdi] at hjd; cases hjd; exact e rfl
            · exact hp j ((hnd.1.mem_erase_iff).2 ⟨eji, hj⟩) hjd
        · rw [List.length_erase_of_mem hip]
          have := List.length_pos_of_mem hip
          omega
      · -- the next of the chain
        obtain ⟨c, r', rfl, hc⟩ : ∃ c r'', r = c :: r'' ∧ cs.contains c = true := by
          rcases hr with rfl | hr
          · cases hir
          · exact hr
        have hic : i = c := by
          rcases List.mem_cons.1 hir with e | e
          · exact e
          · have := h.closed.reach (h.chain.1 hc i e) h3
            have hco := h.sub c (.inr List.mem_cons_self)
            exact absurd this ((h.part c (Nat.lt_of_lt_of_le (S.ordLt c hco) S.len)).2 (.inr (.inl List.mem_cons_self)))
        subst hic
        have hdr := h.dr
        obtain ⟨o, d, p1, p2, p3⟩ := hdr
        rw [if_pos hc] at p3
        have hio := h.sub i (.inr List.mem_cons_self)
        have hdi : dstAt L i = some d := by rw [dstAt, p1]; exact p2
        obtain ⟨d', hd', hdN, _⟩ := S.dst i hio
        rw [hdi] at hd'
        cases hd'
        have hf := h.fresh i List.mem_cons_self d hdi
        have hla := there s o p1 hio (fun _ _ h => h)
        have hz := fillA_size s a
        refine step_congr (a' := fillA s a) (by simpa using p1) (S.plain i o p1) hz (fun t ht => fillA_get h.asize h.keys (hla t ht)) (fun e b u hb => ⟨hb.1, by rw [hb.2.1, fillA_defers, h.adef]⟩)
          (p3 _ _ (fillA_has s a h.asize h.keys) (by rw [fillA_defers]; exact h.adef) h.st) (fun u w' hb => ?_)
        obtain ⟨_, hb2, v, q1, hb3, hb4, hb5⟩ := hb
        rw [p2, put_same (by rw [hz, h.asize]; exact hdN)] at hb3
        subst hb3
        rw [p2]
        have hnd := h.nodup
        have hnd2 := (List.perm_middle (l₁ := pend)).nodup_iff.1 hnd
        have hne : i ∉ pend ++ r' := (List.nodup_cons.1 hnd2).1
        refine ih r' pend ((d, u) :: s) q1 m _ _ _ ⟨hsz, hcl, fun j hj => ?_, fun j hj => h.sub j (hj.imp id (List.mem_cons_of_mem _)), (List.nodup_cons.1 hnd2).2, fun j hj => (h.pd j hj).grow hf [], fun t u' hu hp => ?_, fun j hj e he => ?_, by simp [Act.put, h.asize], by rw [put_defers]; exact h.adef, hb4, hb5, h.chain.2, ?_⟩ ?_
        · rw [lst_set hil, not_or, h.part j hj, List.mem_cons]
          simp only [List.mem_append, not_or] at hne
          constructor
          · rintro ⟨hji, hh | hh | hh⟩
            · exact .inl hh
            · rcases hh with hh | hh
              · exact absurd hh hji
              · exact .inr (.inl hh)
            · exact .inr (.inr hh)
          · rintro (hh | hh | hh)
            · exact ⟨fun e => hne.1 (e ▸ hh), .inl hh⟩
            · exact ⟨fun e => hne.2 (e ▸ hh), .inr (.inl (.inr hh))⟩
            · exact ⟨fun e => hik (e ▸ hh), .inr (.inr hh)⟩
        · by_cases e : d = t
          · subst e
            simp only [look, Nat.beq_refl, cond_true, Option.some.injEq] at hu
            subst hu
            exact put_same (by rw [h.asize]; exact hdN)
          · rw [put_other e]
            unfold look at hu
            rw [beq_no e] at hu
            exact h.agree t u' hu hp
        · have hne' : ¬ d = e := fun e' => by
            subst e'
            have := S.apart i hio j (h.sub j (.inr (List.mem_cons_of_mem _ hj))) d hdi he
            subst this
            exact hne (List.mem_append.2 (.inr hj))
          unfold look
          rw [beq_no hne']
          exact h.fresh j (List.mem_cons_of_mem _ hj) e he
        · simp only [keysB, Bool.and_eq_true]
          exact ⟨blt_iff.2 hdN, h.keys⟩
        · simp at hn ⊢; omega
      · exact absurd hk hik

/-- A REGION THAT DRAWS ITS ORDER. order: the operations ahead of the last ones, cs: those of them that make blocks; the rest waits for all. -/
theorem GC_drawQ {id : Nat} {m : List As} (order cs : List Nat) (k : Nat) (hm : P.follows .mixedOrders = true) (hok : okD L order cs k N s0 = true)
    (h0 : ∀ ops, OpsEq ops L → DQ ro P N D w0 O ops L cs k Q order s0 [] m) : GC ro P N D w0 O (.region id L.toArray true) s0 m Q := fun a w hs hd hst => by
  have S := okD_spec hok
  refine wpIn_region_any hm (InvQ.sound (D := D) (w0 := w0) (O := O) S _ order [] s0 [] m _ _ _ ?_ ?_)
  · have hno : ∀ i, ¬ Lst (Array.replicate L.toArray.size false) i := fun i => by
      unfold Lst
      by_cases h : i < L.length
      · simp [Array.getD, h]
      · simp [Array.getD, h]
    refine ⟨by simp, fun i hi => absurd hi (hno i), fun i hi => ?_, fun i hi => hi.elim (by simp) (fun h => h), by simpa using S.nodup, by simp, fun t u hu _ => hs.at_ t u hu, fun i hi d hd => ?_, hs.size, hd, hst.drew, h0 _ ⟨rfl⟩, S.chain, S.keys⟩
    · simp only [hno i, not_false_eq_true, true_iff, List.not_mem_nil, false_or]
      by_cases hk : i < k
      · exact .inl (S.ordMem i hk)
      · exact .inr (by omega)
    · obtain ⟨d', h1, _, h2⟩ := S.dst i hi
      rw [hd] at h1
      cases h1
      exact h2
  · have := S.len
    simp [S.ordLen]
    omega
end

section
variable {ro : Option Nat} {P : Program} {N : Nat} {D : List Deferred} {w0 : World} {O : List Nat} {s : List (Nat × Value)} {m : List As} {Q : Exit → Act → World → Prop}
/-- q ++ m, told -/
class AppA (q m : List As) (all : outParam (List As)) : Prop where
  eq : q ++ m = all
instance appA_nil {m : List As} : AppA [] m m := ⟨rfl⟩
instance appA_cons {x : As} {q m a : List As} [h : AppA q m a] : AppA (x :: q) m (x :: a) := ⟨by rw [List.cons_append, h.eq]⟩
/-- m2 = q ++ m, q told -/
class SufA (m2 m : List As) (q : outParam (List As)) : Prop where
  eq : m2 = q ++ m
instance (priority := high) sufA_here {m : List As} : SufA m m [] := ⟨rfl⟩
instance (priority := low) sufA_cons {x : As} {m2 m q : List As} [h : SufA m2 m q] : SufA (x :: m2) m (x :: q) := ⟨by rw [List.cons_append, ← h.eq]⟩
section
variable {ops : Array Oper} {L : List Oper} {cs : List Nat} {k : Nat} {q am : List As}
theorem DQ_nil {l : List Oper} (hl : L.drop k = l) [ha : AppA q m am] (h : G ro P N D w0 O ops l s am Q) : DQ ro P N D w0 O ops L cs k Q [] s q m := by
  subst hl
  have e := ha.eq
  subst e
  exact h
theorem DQ_x {i : Nat} {r : List Nat} {o : Oper} {d : Nat} {v : Value} (ho : L[i]? = some o) (hd : o.dst = some d) (hc : cs.contains i = false) [ha : AppA q m am]
    (h : ∀ m', G ro P N D w0 O ops [o] s (am ++ m') (XPost N D w0 O d v (am ++ m'))) (hr : DQ ro P N D w0 O ops L cs k Q r ((d, v) :: s) [] am) : DQ ro P N D w0 O ops L cs k Q (i :: r) s q m := by
  have e := ha.eq
  subst e
  exact ⟨o, d, ho, hd, by rw [if_neg (by simp only [hc]; decide)]; exact ⟨v, [], q ++ m, .inr ⟨rfl, rfl⟩, h, hr⟩⟩
theorem DQ_c {i : Nat} {r : List Nat} {o : Oper} {d : Nat} (ho : L[i]? = some o) (hd : o.dst = some d) (hc : cs.contains i = true) [ha : AppA q m am]
    (h : G ro P N D w0 O ops [o] s am (CPostQ N D w0 O d m fun v q' => DQ ro P N D w0 O ops L cs k Q r ((d, v) :: s) q' m)) : DQ ro P N D w0 O ops L cs k Q (i :: r) s q m := by
  have e := ha.eq
  subst e
  exact ⟨o, d, ho, hd, by rw [if_pos hc]; exact h⟩
end
theorem C_doneD {ops : Array Oper} {L : List Oper} {cs r : List Nat} {k d : Nat} {v : Value} {m2 q' : List As} {s' : List (Nat × Value)} (hv : look s' d = some v) [hq : SufA m2 m q'] (h : DQ ro P N D w0 O ops L cs k Q r ((d, v) :: s) q' m) :
    At N D w0 O .normal s' m2 (CPostQ N D w0 O d m fun v q' => DQ ro P N D w0 O ops L cs k Q r ((d, v) :: s) q' m) := fun a w hs hd hw => by
  have e := hq.eq
  subst e
  exact ⟨rfl, hd, v, q', hs.at_ d v hv, hw, h⟩
end
attribute [irreducible] DQ CPostQ
end Go.Proofs.Ytjdbdjmfimbbkaa
