/- Regions that draw their order: one walk serves every order, where what an operation gives does not hang on the order. -/
import Derived.Test.YtjdbdjmfimbbkaaMore
import Derived.OrdersIn
import Derived.OwnWalkIn
set_option linter.unusedVariables false
set_option linter.unusedSimpArgs false
namespace Go.Proofs.Ytjdbdjmfimbbkaa
open Go.RowKit

/-! ### A frame with more slots filled -/
def fillA : List (Nat × Value) → Act → Act
  | [], a => a
  | (k, v) :: r, a => (fillA r a).put (some k) v

def keysB (N : Nat) : List (Nat × Value) → Bool
  | [] => true
  | (k, _) :: r => Nat.blt k N && keysB N r

theorem fillA_size : ∀ (s : List (Nat × Value)) (a : Act), (fillA s a).tmps.size = a.tmps.size
  | [], a => rfl
  | (k, v) :: r, a => by simp [fillA, Act.put, fillA_size r a]

theorem fillA_defers : ∀ (s : List (Nat × Value)) (a : Act), (fillA s a).defers = a.defers
  | [], a => rfl
  | (k, v) :: r, a => by simp [fillA, Act.put, fillA_defers r a]

theorem fillA_has {N : Nat} : ∀ (s : List (Nat × Value)) (a : Act), a.tmps.size = N → keysB N s = true → Has N s (fillA s a)
  | [], a, h, _ => ⟨h, fun t v hv => by simp [look] at hv⟩
  | (k, v) :: r, a, h, hk => by
    simp only [keysB, Bool.and_eq_true] at hk
    exact (fillA_has r a h hk.2).put k v hk.1

theorem put_other {a : Act} {k t : Nat} {v : Value} (h : ¬ k = t) : (a.put (some k) v).tmps.getD t undef = a.tmps.getD t undef := by
  simp [Act.put, Array.getD_eq_getD_getElem?, Array.getElem?_setIfInBounds_ne h]

theorem put_same {a : Act} {k : Nat} {v : Value} (h : k < a.tmps.size) : (a.put (some k) v).tmps.getD k undef = v := by
  simp [Act.put, Array.getD_eq_getD_getElem?, h]

theorem fillA_none : ∀ (s : List (Nat × Value)) (a : Act) (t : Nat), look s t = none → (fillA s a).tmps.getD t undef = a.tmps.getD t undef
  | [], a, t, _ => rfl
  | (k, v) :: r, a, t, h => by
    unfold look at h
    by_cases e : k = t
    · subst e
      simp at h
    · rw [beq_no e] at h
      rw [fillA, put_other e]
      exact fillA_none r a t h

theorem fillA_get {N : Nat} {s : List (Nat × Value)} {a : Act} {t : Nat} (hs : a.tmps.size = N) (hk : keysB N s = true) (h : ∀ u, look s t = some u → a.tmps.getD t undef = u) :
    (fillA s a).tmps.getD t undef = a.tmps.getD t undef := by
  cases hl : look s t with
  | none => exact fillA_none s a t hl
  | some u => rw [(fillA_has s a hs hk).at_ t u hl, h u hl]

theorem wanted_congr {ops : Array Oper} {o : Oper} {a a' : Act} (hz : a'.tmps.size = a.tmps.size) (h : ∀ t ∈ o.looksAt ops, a'.tmps.getD t undef = a.tmps.getD t undef) :
    Region.wanted o (yielded ops a'.tmps) = Region.wanted o (yielded ops a.tmps) := by
  unfold Region.wanted
  cases hg : o.guard with
  | none => rfl
  | some gw =>
    obtain ⟨g, want⟩ := gw
    have hy : yielded ops a'.tmps g = yielded ops a.tmps g := by
      unfold yielded
      cases hd : (ops[g]?).bind (·.dst) with
      | none => rfl
      | some d =>
        have h1 := h d (by simp [Oper.looksAt, hg, hd])
        have h2 : a'.tmps[d]? = a.tmps[d]? := by
          by_cases hlt : d < a.tmps.size
          · have hlt' : d < a'.tmps.size := hz ▸ hlt
            simp only [Array.getD, hlt, hlt', dif_pos] at h1
            simpa [hlt, hlt'] using h1
          · have hlt' : ¬ d < a'.tmps.size := hz ▸ hlt
            simp [hlt, hlt']
        simp [h2]
    simp [hy]

theorem eval_congr {ops : Array Oper} {o : Oper} {a a' : Act} (h : ∀ t ∈ o.looksAt ops, a'.tmps.getD t undef = a.tmps.getD t undef) : ∀ x ∈ o.op.operands, a'.eval x = a.eval x := by
  intro x hx
  cases x with
  | tmp t => exact h t (List.mem_append_left _ (List.mem_filterMap.2 ⟨.tmp t, by simpa using hx, rfl⟩))
  | const v => rfl
  | global g => rfl
  | func f => rfl

def plainOp : Op → Bool
  | .select .. => false
  | .defer .. => false
  | _ => true

theorem put_defers (a : Act) (d : Option Nat) (v : Value) : (a.put d v).defers = a.defers := by cases d <;> rfl

/-- A step that is told from the frame with more slots filled. -/
theorem step_congr {ro : Option Nat} {P : Program} {ops : Array Oper} {Q Q1 : Exit → Act → World → Prop} {i : Nat} {o : Oper} {a a' : Act} {w : World} {K : Act → World → Prop}
    (hi : ops[i]? = some o) (hp : plainOp o.op = true) (hz : a'.tmps.size = a.tmps.size) (hl : ∀ t ∈ o.looksAt ops, a'.tmps.getD t undef = a.tmps.getD t undef)
    (hQ : ∀ e b u, Q1 e b u → e = .normal ∧ b.defers = a'.defers) (h : wpL ro P ops Q1 [o] a' w) (hK : ∀ v w', Q1 .normal (a'.put o.dst v) w' → K (a.put o.dst v) w') :
    wpOpIn (FW ro) 0 P ops Q i K a w := by
  have hd : ∀ c, o.op ≠ .defer c := fun c e => by rw [e] at hp; cases hp
  have hs : ∀ cs b, o.op ≠ .select cs b := fun cs b e => by rw [e] at hp; cases hp
  unfold wpOpIn
  simp only [hi]
  simp only [wpL] at h
  rw [wanted_congr hz hl] at h
  split
  · rename_i hw
    rw [if_pos hw] at h
    unfold Oper.wpIn at *
    rw [Oper.semAt_plain (FW ro) _ o hd] at h ⊢
    rw [execOp_congr o hs (eval_congr hl)] at h
    refine ⟨fun _ _ => trivial, ?_⟩
    have h := h.2
    generalize (execOp a.eval o).run P w = r at *
    cases r with
    | ok x w' =>
      cases x <;> simp only [Oper.uponIn] at h ⊢
      case value u => exact hK _ _ h
      case skip => exact hK _ _ h
      case defer d =>
        have := (hQ _ _ _ h).2
        rw [put_defers] at this
        exact absurd (congrArg List.length this) (by simp)
      case enter f args =>
        refine ⟨h.1, CallsIn.mono h.2 fun e w'' he => ?_⟩
        cases e with
        | returned u => exact hK _ _ he
        | panicked c => exact absurd (hQ _ _ _ he).1 (by simp)
        | outgrown =>
          obtain ⟨b, u, hb⟩ := he
          exact absurd (hQ _ _ _ hb).1 (by simp)
      case row row args => exact ⟨h.1, RowsIn.mono h.2 fun u w'' he => hK _ _ he⟩
      case round l f tmps assign body =>
        refine ⟨h.1, RoundIn.mono h.2 fun e w'' he => ?_⟩
        cases e with
        | returned u => exact hK _ _ he
        | panicked c => exact absurd (hQ _ _ _ he).1 (by simp)
        | outgrown =>
          obtain ⟨b, u, hb⟩ := he
          exact absurd (hQ _ _ _ hb).1 (by simp)
    | halt x w' =>
      cases x <;> simp only [Oper.uponIn] at h ⊢
      case panic u => exact absurd (hQ _ _ _ h).1 (by simp)
  · rename_i hw
    rw [if_neg hw] at h
    exact ⟨fun _ _ => trivial, hK _ _ h⟩

/-! ### What is asked of the operations -/
def XPost (N : Nat) (D : List Deferred) (w0 : World) (O : List Nat) (d : Nat) (v : Value) (m : List As) : Exit → Act → World → Prop :=
  fun e a w => e = .normal ∧ a.defers = D ∧ a.tmps.getD d undef = v ∧ St w0 O m w

def CPost (N : Nat) (D : List Deferred) (w0 : World) (O : List Nat) (d : Nat) (m : List As) (R : Value → List As → Prop) : Exit → Act → World → Prop :=
  fun e a w => e = .normal ∧ a.defers = D ∧ ∃ v m1, a.tmps.getD d undef = v ∧ St w0 O (m1 ++ m) w ∧ R v m1

def DR (ro : Option Nat) (P : Program) (N : Nat) (D : List Deferred) (w0 : World) (O : List Nat) (ops : Array Oper) (L : List Oper) (cs : List Nat) (k : Nat) (Q : Exit → Act → World → Prop) : List Nat → List (Nat × Value) → List As → Prop
  | [], s, m => G ro P N D w0 O ops (L.drop k) s m Q
  | i :: r, s, m => ∃ o d, L[i]? = some o ∧ o.dst = some d ∧
    if cs.contains i = true then G ro P N D w0 O ops [o] s m (CPost N D w0 O d m fun v m1 => DR ro P N D w0 O ops L cs k Q r ((d, v) :: s) (m1 ++ m))
    else ∃ v, (∀ m', G ro P N D w0 O ops [o] s (m ++ m') (XPost N D w0 O d v (m ++ m'))) ∧ DR ro P N D w0 O ops L cs k Q r ((d, v) :: s) m

section
variable {ro : Option Nat} {P : Program} {N : Nat} {D : List Deferred} {w0 : World} {O : List Nat} {ops : Array Oper} {L : List Oper} {cs : List Nat} {k : Nat} {Q : Exit → Act → World → Prop} {s : List (Nat × Value)} {m : List As}

theorem DR_nil {l : List Oper} (hl : L.drop k = l) (h : G ro P N D w0 O ops l s m Q) : DR ro P N D w0 O ops L cs k Q [] s m := by subst hl; exact h
theorem DR_x {i : Nat} {r : List Nat} {o : Oper} {d : Nat} {v : Value} (ho : L[i]? = some o) (hd : o.dst = some d) (hc : cs.contains i = false)
    (h : ∀ m', G ro P N D w0 O ops [o] s (m ++ m') (XPost N D w0 O d v (m ++ m'))) (hr : DR ro P N D w0 O ops L cs k Q r ((d, v) :: s) m) : DR ro P N D w0 O ops L cs k Q (i :: r) s m :=
  ⟨o, d, ho, hd, by rw [if_neg (by simp only [hc]; decide)]; exact ⟨v, h, hr⟩⟩
theorem DR_c {i : Nat} {r : List Nat} {o : Oper} {d : Nat} (ho : L[i]? = some o) (hd : o.dst = some d) (hc : cs.contains i = true)
    (h : G ro P N D w0 O ops [o] s m (CPost N D w0 O d m fun v m1 => DR ro P N D w0 O ops L cs k Q r ((d, v) :: s) (m1 ++ m))) : DR ro P N D w0 O ops L cs k Q (i :: r) s m :=
  ⟨o, d, ho, hd, by rw [if_pos hc]; exact h⟩
theorem X_done {d : Nat} {v : Value} {s' : List (Nat × Value)} {m' : List As} (hv : look s' d = some v) (hm : List.Sublist m m') : At N D w0 O .normal s' m' (XPost N D w0 O d v m) :=
  fun a w hs hd hw => ⟨rfl, hd, hs.at_ d v hv, hw.drop hm⟩
theorem C_done {d : Nat} {v : Value} {s' : List (Nat × Value)} {m1 : List As} {R : Value → List As → Prop} (hv : look s' d = some v) (h : R v m1) : At N D w0 O .normal s' (m1 ++ m) (CPost N D w0 O d m R) :=
  fun a w hs hd hw => ⟨rfl, hd, v, m1, hs.at_ d v hv, hw, h⟩
end

/-! ### The static side -/
def predsOf (o : Oper) : List Nat := (o.after.toList.filter (Region.binds .any)).map (·.on)

def predsAt (L : List Oper) (i : Nat) : List Nat := match L[i]? with | some o => predsOf o | none => []
def dstAt (L : List Oper) (i : Nat) : Option Nat := match L[i]? with | some o => o.dst | none => none
def looksAtAt (L : List Oper) (i : Nat) : List Nat := match L[i]? with | some o => o.looksAt L.toArray | none => []

def reachB (L : List Oper) (c : Nat) : Nat → Nat → Bool
  | 0, _ => false
  | f + 1, i => (predsAt L i).contains c || (predsAt L i).any fun p => Nat.blt c p && reachB L c f p

def chainB (L : List Oper) (cs : List Nat) : List Nat → Bool
  | [] => true
  | c :: r => (!cs.contains c || r.all fun i => reachB L c L.length i) && chainB L cs r

def nodupB : List Nat → Bool
  | [] => true
  | x :: r => !r.contains x && nodupB r

def okD (L : List Oper) (order cs : List Nat) (k N : Nat) (s : List (Nat × Value)) : Bool :=
  (List.range L.length).all (fun i => (predsAt L i).all fun p => Nat.blt p i) &&
  (Nat.ble k L.length && Nat.beq order.length k && order.all (fun i => Nat.blt i k) && nodupB order && (List.range k).all (fun i => order.contains i)) &&
  (order.all (fun i => match dstAt L i with | some d => Nat.blt d N && (look s d).isNone | none => false)) &&
  (order.all fun i => order.all fun p => match dstAt L p with | some d => !(looksAtAt L i).contains d || (predsAt L i).contains p | none => true) &&
  (order.all fun i => order.all fun p => Nat.beq i p || (match dstAt L i, dstAt L p with | some d, some e => !Nat.beq d e | _, _ => true)) &&
  chainB L cs order &&
  ((List.range' k (L.length - k)).all fun i => (List.range i).all fun j => (List.range' (j + 1) (i - j)).any fun q => (predsAt L q).contains j) &&
  L.all (fun o => plainOp o.op) && keysB N s

theorem beq_iff {a b : Nat} : Nat.beq a b = true ↔ a = b := ⟨Nat.eq_of_beq_eq_true, fun h => h ▸ Nat.beq_refl a⟩
theorem blt_iff {a b : Nat} : Nat.blt a b = true ↔ a < b := by rw [Nat.blt_eq]
theorem nodupB_spec : ∀ {l : List Nat}, nodupB l = true → l.Nodup
  | [], _ => List.nodup_nil
  | x :: r, h => by
    simp only [nodupB, Bool.and_eq_true, Bool.not_eq_true', List.contains_eq_mem, decide_eq_false_iff_not] at h
    exact List.nodup_cons.2 ⟨h.1, nodupB_spec h.2⟩

/-- one is reached from the other by what must come first -/
inductive Reach (L : List Oper) (c : Nat) : Nat → Prop
  | one {i : Nat} : c ∈ predsAt L i → Reach L c i
  | step {i p : Nat} : p ∈ predsAt L i → Reach L c p → Reach L c i

theorem reachB_spec {L : List Oper} {c : Nat} : ∀ {f i : Nat}, reachB L c f i = true → Reach L c i
  | 0, i, h => by simp [reachB] at h
  | f + 1, i, h => by
    simp only [reachB, Bool.or_eq_true, List.contains_eq_mem, decide_eq_true_eq, List.any_eq_true, Bool.and_eq_true] at h
    rcases h with h | ⟨p, hp, _, hr⟩
    · exact .one h
    · exact .step hp (reachB_spec hr)

def ChainOK (L : List Oper) (cs : List Nat) : List Nat → Prop
  | [] => True
  | c :: r => (cs.contains c = true → ∀ i ∈ r, Reach L c i) ∧ ChainOK L cs r

theorem chainB_spec {L : List Oper} {cs : List Nat} : ∀ {l : List Nat}, chainB L cs l = true → ChainOK L cs l
  | [], _ => trivial
  | c :: r, h => by
    simp only [chainB, Bool.and_eq_true, Bool.or_eq_true, Bool.not_eq_true', List.all_eq_true] at h
    refine ⟨fun hc i hi => ?_, chainB_spec h.2⟩
    rcases h.1 with h1 | h1
    · rw [hc] at h1; cases h1
    · exact reachB_spec (h1 i hi)

structure Stat (L : List Oper) (order cs : List Nat) (k N : Nat) (s : List (Nat × Value)) : Prop where
  low : ∀ i, ∀ p ∈ predsAt L i, p < i
  len : k ≤ L.length
  ordLt : ∀ i ∈ order, i < k
  ordMem : ∀ i, i < k → i ∈ order
  ordLen : order.length = k
  nodup : order.Nodup
  dst : ∀ i ∈ order, ∃ d, dstAt L i = some d ∧ d < N ∧ look s d = none
  looks : ∀ i ∈ order, ∀ p ∈ order, ∀ d, dstAt L p = some d → d ∈ looksAtAt L i → p ∈ predsAt L i
  apart : ∀ i ∈ order, ∀ p ∈ order, ∀ d, dstAt L i = some d → dstAt L p = some d → i = p
  chain : ChainOK L cs order
  sink : ∀ i, k ≤ i → i < L.length → ∀ j, j < i → ∃ q, j < q ∧ q ≤ i ∧ j ∈ predsAt L q
  plain : ∀ (i : Nat) (o : Oper), L[i]? = some o → plainOp o.op = true
  keys : keysB N s = true

theorem okD_spec {L : List Oper} {order cs : List Nat} {k N : Nat} {s : List (Nat × Value)} (h : okD L order cs k N s = true) : Stat L order cs k N s := by
  simp only [okD, Bool.and_eq_true, List.all_eq_true, List.any_eq_true] at h
  obtain ⟨⟨⟨⟨⟨⟨⟨⟨h1, ⟨⟨⟨h2, h3⟩, h4⟩, h5⟩, h5'⟩, h6⟩, h7⟩, h8⟩, h9⟩, h10⟩, h11⟩, h12⟩ := h
  have hk : k ≤ L.length := Nat.le_of_ble_eq_true h2
  have hl : order.length = k := beq_iff.1 h3
  have hlt : ∀ i ∈ order, i < k := fun i hi => blt_iff.1 (h4 i hi)
  have hn := nodupB_spec h5
  refine ⟨fun i p hp => ?_, hk, hlt, fun i hi => by simpa using h5' i (List.mem_range.2 hi), hl, hn, fun i hi => ?_, fun i hi p hp d hd hm => ?_, fun i hi p hp d hd he => ?_, chainB_spec h9, fun i hik hil j hj => ?_, fun i o ho => h11 o (List.mem_of_getElem? ho), h12⟩
  · by_cases hi : i < L.length
    · exact blt_iff.1 (h1 i (List.mem_range.2 hi) p hp)
    · rw [predsAt, List.getElem?_eq_none (by omega)] at hp
      exact absurd hp (by simp)
  · have := h6 i hi
    cases hd : dstAt L i with
    | none => rw [hd] at this; simp at this
    | some d =>
      rw [hd] at this
      simp only [Bool.and_eq_true] at this
      exact ⟨d, rfl, blt_iff.1 this.1, by simpa using this.2⟩
  · have := h7 i hi p hp
    rw [hd] at this
    simp only [Bool.or_eq_true, Bool.not_eq_true', List.contains_eq_mem, decide_eq_false_iff_not, decide_eq_true_eq] at this
    rcases this with h | h
    · exact absurd hm h
    · exact h
  · have := h8 i hi p hp
    rw [hd, he] at this
    simp only [Bool.or_eq_true, Bool.not_eq_true', Nat.beq_refl, Bool.true_eq_false, or_false] at this
    exact beq_iff.1 this
  · obtain ⟨q, hq, hj2⟩ := h10 i (by rw [List.mem_range'_1]; omega) j (List.mem_range.2 hj)
    rw [List.mem_range'_1] at hq
    exact ⟨q, by omega, by omega, by simpa using hj2⟩

/-! ### Which are listed -/
def Lst (l : Array Bool) (i : Nat) : Prop := l.getD i false = true

theorem unl_iff {l : Array Bool} {i : Nat} : l.getD i true = false ↔ i < l.size ∧ ¬ Lst l i := by
  unfold Lst
  by_cases h : i < l.size
  · simp [Array.getD, h]
  · simp [Array.getD, h]

theorem lst_set {l : Array Bool} {i j : Nat} (hi : i < l.size) : Lst (l.setIfInBounds i true) j ↔ j = i ∨ Lst l j := by
  unfold Lst
  simp only [Array.getD_eq_getD_getElem?, Array.getElem?_setIfInBounds]
  by_cases e : i = j
  · subst e; simp [hi]
  · have : ¬ j = i := fun h => e h.symm
    simp [e, this]

theorem ready_iff {L : List Oper} {l : Array Bool} {i : Nat} (hl : l.size = L.length) :
    i ∈ Region.ready .any L.toArray l ↔ i < L.length ∧ ¬ Lst l i ∧ ∀ p ∈ predsAt L i, Lst l p := by
  rw [mem_ready, unl_iff, hl]
  constructor
  · rintro ⟨⟨h1, h2⟩, o, ho, hp⟩
    refine ⟨h1, h2, fun p hpp => ?_⟩
    have ho' : L[i]? = some o := by simpa using ho
    rw [predsAt, ho'] at hpp
    simp only [predsOf, List.mem_map, List.mem_filter] at hpp
    obtain ⟨e, ⟨he, hb⟩, rfl⟩ := hpp
    exact hp e (by simpa using he) hb
  · rintro ⟨h1, h2, h3⟩
    refine ⟨⟨h1, h2⟩, L[i], by simp [h1], fun e he hb => h3 e.on ?_⟩
    rw [predsAt, List.getElem?_eq_getElem h1]
    simp only [predsOf, List.mem_map, List.mem_filter]
    exact ⟨e, ⟨by simpa using he, hb⟩, rfl⟩

def Closed (L : List Oper) (l : Array Bool) : Prop := ∀ i, Lst l i → ∀ p ∈ predsAt L i, Lst l p

theorem Closed.reach {L : List Oper} {l : Array Bool} (hc : Closed L l) {c i : Nat} (hr : Reach L c i) : (∀ p ∈ predsAt L i, Lst l p) → Lst l c := by
  induction hr with
  | one h => exact fun hp => hp _ h
  | step h _ ih => exact fun hp => ih (hc _ (hp _ h))

theorem Closed.set {L : List Oper} {l : Array Bool} (hc : Closed L l) {i : Nat} (hi : i < l.size) (hp : ∀ p ∈ predsAt L i, Lst l p) : Closed L (l.setIfInBounds i true) := by
  intro j hj p hpj
  rw [lst_set hi] at hj ⊢
  rcases hj with rfl | hj
  · exact .inr (hp p hpj)
  · exact .inr (hc j hj p hpj)

theorem sink_all {L : List Oper} {order cs : List Nat} {k N : Nat} {s : List (Nat × Value)} (S : Stat L order cs k N s) {l : Array Bool} (hc : Closed L l) {i : Nat} (hik : k ≤ i) (hil : i < L.length) (hp : ∀ p ∈ predsAt L i, Lst l p) :
    ∀ n j, i - j = n → j < i → Lst l j := by
  intro n
  induction n using Nat.strongRecOn with
  | _ n ih =>
    intro j hn hj
    obtain ⟨q, h1, h2, h3⟩ := S.sink i hik hil j hj
    by_cases e : q = i
    · subst e; exact hp j h3
    · exact hc q (ih (i - q) (by omega) q rfl (by omega)) j h3

/-- some operation can be taken, as long as one is left -/
theorem some_ready {L : List Oper} {order cs : List Nat} {k N : Nat} {s : List (Nat × Value)} (S : Stat L order cs k N s) {l : Array Bool} (hl : l.size = L.length) : ∀ i, i < L.length → ¬ Lst l i → Region.ready .any L.toArray l ≠ [] := by
  intro i
  induction i using Nat.strongRecOn with
  | _ i ih =>
    intro hi hu
    by_cases h : ∀ p ∈ predsAt L i, Lst l p
    · intro h0
      have := (ready_iff (i := i) hl).2 ⟨hi, hu, h⟩
      rw [h0] at this
      cases this
    · have h : ∃ p, p ∈ predsAt L i ∧ ¬ Lst l p := Classical.byContradiction fun hn => h fun p hp => Classical.byContradiction fun hx => hn ⟨p, hp, hx⟩
      obtain ⟨p, hp, hx⟩ := h
      have hlt := S.low i p hp
      exact ih p hlt (by omega) hx

/-! ### The end: the operations that wait for all others, in their order -/
theorem tail_sound {ro : Option Nat} {P : Program} {L : List Oper} {order cs : List Nat} {k N : Nat} {s : List (Nat × Value)} {Q : Exit → Act → World → Prop} (S : Stat L order cs k N s) :
    ∀ (n j : Nat) (l : Array Bool) (a : Act) (w : World), j + n = L.length → k ≤ j → l.size = L.length → (∀ i, Lst l i ↔ i < j) → wpL ro P L.toArray Q (L.drop j) a w → wpAnyIn (FW ro) 0 P .any L.toArray Q n l a w := by
  intro n
  induction n with
  | zero =>
    intro j l a w hj hk hl hL h
    have hr : Region.ready .any L.toArray l = [] := by
      cases h' : Region.ready .any L.toArray l with
      | nil => rfl
      | cons x xs =>
        have hx : x ∈ Region.ready .any L.toArray l := by rw [h']; exact List.mem_cons_self
        rw [ready_iff hl, hL] at hx
        omega
    rw [List.drop_eq_nil_of_le (by omega)] at h
    exact ⟨hr, h⟩
  | succ n ih =>
    intro j l a w hj hk hl hL h
    have hjl : j < L.length := by omega
    refine ⟨fun h0 => absurd h0 (some_ready S hl j hjl (by rw [hL]; omega)), fun i hi => ?_⟩
    rw [ready_iff hl] at hi
    obtain ⟨h1, h2, h3⟩ := hi
    have hc : Closed L l := fun q hq p hp => by
      rw [hL] at hq ⊢
      have := S.low q p hp
      omega
    have hji : j ≤ i := by rw [hL] at h2; omega
    have : i = j := by
      by_cases e : i = j
      · exact e
      · have := sink_all S hc (by omega) h1 h3 (i - j) j rfl (by omega)
        rw [hL] at this
        omega
    subst this
    rw [List.drop_eq_getElem_cons hjl] at h
    have hK : ∀ b u, wpL ro P L.toArray Q (L.drop (i + 1)) b u → wpAnyIn (FW ro) 0 P .any L.toArray Q n (l.setIfInBounds i true) b u := fun b u hb =>
      ih (i + 1) _ b u (by omega) (by omega) (by simpa using hl) (fun q => by rw [lst_set (by omega), hL]; omega) hb
    unfold wpOpIn
    have ho : L.toArray[i]? = some L[i] := by simp [hjl]
    simp only [ho]
    simp only [wpL] at h
    split
    · rename_i hw
      rw [if_pos hw] at h
      exact Oper.wpIn_mono hK h
    · rename_i hw
      rw [if_neg hw] at h
      exact ⟨fun _ _ => trivial, hK _ _ h⟩

/-! ### The rest: any order -/
section
variable {ro : Option Nat} {P : Program} {N : Nat} {D : List Deferred} {w0 : World} {O : List Nat} {L : List Oper} {order cs : List Nat} {k : Nat} {Q : Exit → Act → World → Prop} {s0 : List (Nat × Value)}

/-- An operation that may be taken whenever what it looks at is there. -/
def Pend (ro : Option Nat) (P : Program) (N : Nat) (D : List Deferred) (w0 : World) (O : List Nat) (L : List Oper) (s : List (Nat × Value)) (m : List As) (i : Nat) : Prop :=
  ∃ o d v si mi, L[i]? = some o ∧ o.dst = some d ∧ look s d = some v ∧ keysB N si = true ∧ (∀ t u, look si t = some u → look s t = some u) ∧ (∃ m', List.Perm m (mi ++ m')) ∧
    ∀ m', G ro P N D w0 O L.toArray [o] si (mi ++ m') (XPost N D w0 O d v (mi ++ m'))

theorem Pend.grow {s : List (Nat × Value)} {m : List As} {i : Nat} (h : Pend ro P N D w0 O L s m i) {d : Nat} {v : Value} (hd : look s d = none) (m1 : List As) : Pend ro P N D w0 O L ((d, v) :: s) (m1 ++ m) i := by
  obtain ⟨o, e, u, si, mi, h1, h2, h3, h4, h5, ⟨m', h6⟩, h7⟩ := h
  have hx : ∀ t u, look s t = some u → look ((d, v) :: s) t = some u := fun t u hu => by
    unfold look
    have : ¬ d = t := fun e => by subst e; rw [hd] at hu; cases hu
    rw [beq_no this]
    exact hu
  refine ⟨o, e, u, si, mi, h1, h2, hx _ _ h3, h4, fun t u hu => hx _ _ (h5 t u hu), ⟨m' ++ m1, ?_⟩, h7⟩
  rw [← List.append_assoc]
  exact (List.perm_append_comm).trans (h6.append_right m1)

structure InvA (ro : Option Nat) (P : Program) (N : Nat) (D : List Deferred) (w0 : World) (O : List Nat) (L : List Oper) (order cs : List Nat) (k : Nat) (Q : Exit → Act → World → Prop) (r pend : List Nat) (s : List (Nat × Value)) (m : List As) (l : Array Bool) (a : Act) (w : World) : Prop where
  size : l.size = L.length
  closed : Closed L l
  part : ∀ i, i < L.length → (¬ Lst l i ↔ i ∈ pend ∨ i ∈ r ∨ k ≤ i)
  sub : ∀ i, i ∈ pend ∨ i ∈ r → i ∈ order
  nodup : (pend ++ r).Nodup
  pd : ∀ i ∈ pend, Pend ro P N D w0 O L s m i
  agree : ∀ t u, look s t = some u → (∀ i ∈ pend, dstAt L i ≠ some t) → a.tmps.getD t undef = u
  fresh : ∀ i ∈ r, ∀ d, dstAt L i = some d → look s d = none
  asize : a.tmps.size = N
  adef : a.defers = D
  st : St w0 O m w
  dr : DR ro P N D w0 O L.toArray L cs k Q r s m
  chain : ChainOK L cs r
  keys : keysB N s = true

theorem InvA.absorb (S : Stat L order cs k N s0) : ∀ (r pend : List Nat) (s : List (Nat × Value)) (m : List As) (l : Array Bool) (a : Act) (w : World), InvA ro P N D w0 O L order cs k Q r pend s m l a w →
    ∃ r' pend' s', InvA ro P N D w0 O L order cs k Q r' pend' s' m l a w ∧ pend'.length + r'.length = pend.length + r.length ∧ (r' = [] ∨ ∃ c r'', r' = c :: r'' ∧ cs.contains c = true) := by
  intro r
  induction r with
  | nil => exact fun pend s m l a w h => ⟨[], pend, s, h, rfl, .inl rfl⟩
  | cons i r ih =>
    intro pend s m l a w h
    by_cases hc : cs.contains i = true
    · exact ⟨i :: r, pend, s, h, rfl, .inr ⟨i, r, rfl, hc⟩⟩
    · have hdr := h.dr
      obtain ⟨o, d, h1, h2, h3⟩ := hdr
      rw [if_neg hc] at h3
      obtain ⟨v, h4, h5⟩ := h3
      have hdi : dstAt L i = some d := by rw [dstAt, h1]; exact h2
      have hio : i ∈ order := h.sub i (.inr List.mem_cons_self)
      obtain ⟨d', hd', hdN, _⟩ := S.dst i hio
      rw [hdi] at hd'
      cases hd'
      have hf := h.fresh i List.mem_cons_self d hdi
      have hn := h.nodup
      have hinv : InvA ro P N D w0 O L order cs k Q r (i :: pend) ((d, v) :: s) m l a w := by
        refine ⟨h.size, h.closed, fun j hj => ?_, fun j hj => h.sub j ?_, ?_, fun j hj => ?_, fun t u hu hp => ?_, fun j hj e he => ?_, h.asize, h.adef, h.st, h5, h.chain.2, ?_⟩
        · rw [h.part j hj]
          simp only [List.mem_cons]
          constructor
          · rintro (h | h | h)
            · exact .inl (.inr h)
            · rcases h with h | h
              · exact .inl (.inl h)
              · exact .inr (.inl h)
            · exact .inr (.inr h)
          · rintro (h | h | h)
            · rcases h with h | h
              · exact .inr (.inl (.inl h))
              · exact .inl h
            · exact .inr (.inl (.inr h))
            · exact .inr (.inr h)
        · simp only [List.mem_cons] at hj ⊢
          rcases hj with (h | h) | h
          · exact .inr (.inl h)
          · exact .inl h
          · exact .inr (.inr h)
        · exact (List.perm_middle (l₁ := pend)).nodup_iff.1 hn
        · rcases List.mem_cons.1 hj with rfl | hj
          · refine ⟨o, d, v, s, m, h1, h2, by simp [look], h.keys, fun t u hu => ?_, ⟨[], by simp⟩, h4⟩
            unfold look
            have : ¬ d = t := fun e => by subst e; rw [hf] at hu; cases hu
            rw [beq_no this]
            exact hu
          · exact (h.pd j hj).grow hf []
        · have hne : ¬ d = t := fun e => hp i List.mem_cons_self (by rw [hdi, e])
          unfold look at hu
          rw [beq_no hne] at hu
          exact h.agree t u hu fun j hj => hp j (List.mem_cons_of_mem _ hj)
        · have hne : ¬ d = e := fun e' => by
            subst e'
            have := S.apart i hio j (h.sub j (.inr (List.mem_cons_of_mem _ hj))) d hdi he
            subst this
            rw [List.nodup_append] at hn
            exact (List.nodup_cons.1 hn.2.1).1 hj
          unfold look
          rw [beq_no hne]
          exact h.fresh j (List.mem_cons_of_mem _ hj) e he
        · simp only [keysB, Bool.and_eq_true]
          exact ⟨blt_iff.2 hdN, h.keys⟩
      obtain ⟨r', pend', s', h6, h7, h8⟩ := ih _ _ _ _ _ _ hinv
      exact ⟨r', pend', s', h6, by simp at h7 ⊢; omega, h8⟩

theorem InvA.sound (S : Stat L order cs k N s0) : ∀ (n : Nat) (r pend : List Nat) (s : List (Nat × Value)) (m : List As) (l : Array Bool) (a : Act) (w : World), InvA ro P N D w0 O L order cs k Q r pend s m l a w →
    n = pend.length + r.length + (L.length - k) → wpAnyIn (FW ro) 0 P .any L.toArray Q n l a w := by
  intro n
  induction n with
  | zero =>
    intro r pend s m l a w h hn
    have hr : r = [] := List.eq_nil_of_length_eq_zero (by omega)
    have hp : pend = [] := List.eq_nil_of_length_eq_zero (by omega)
    subst hr hp
    have hs : Has N s a := ⟨h.asize, fun t u hu => h.agree t u hu (by simp)⟩
    refine tail_sound S 0 k l a w (by have := S.len; omega) (Nat.le_refl _) h.size (fun i => ?_) (h.dr a w hs h.adef h.st)
    by_cases hi : i < L.length
    · have := h.part i hi
      simp only [List.not_mem_nil, false_or] at this
      constructor
      · intro hl; exact Nat.lt_of_not_le fun hk => (this.2 hk) hl
      · intro hk; exact Classical.byContradiction fun hl => by have := this.1 hl; omega
    · have hne : ¬ Lst l i := by unfold Lst; simp [Array.getD, h.size, hi]
      have := S.len
      constructor
      · intro h; exact absurd h hne
      · intro h; omega
  | succ n ih =>
    intro r pend s m l a w h hn
    obtain ⟨r, pend, s, h, hlen, hr⟩ := h.absorb S
    rw [← hlen] at hn
    by_cases hdone : pend = [] ∧ r = []
    · obtain ⟨rfl, rfl⟩ := hdone
      have hs : Has N s a := ⟨h.asize, fun t u hu => h.agree t u hu (by simp)⟩
      refine tail_sound S (n + 1) k l a w (by have := S.len; simp at hn; omega) (Nat.le_refl _) h.size (fun i => ?_) (h.dr a w hs h.adef h.st)
      by_cases hi : i < L.length
      · have := h.part i hi
        simp only [List.not_mem_nil, false_or] at this
        constructor
        · intro hl; exact Nat.lt_of_not_le fun hk => (this.2 hk) hl
        · intro hk; exact Classical.byContradiction fun hl => by have := this.1 hl; omega
      · have hne : ¬ Lst l i := by unfold Lst; simp [Array.getD, h.size, hi]
        have := S.len
        constructor
        · intro h; exact absurd h hne
        · intro h; omega
    · -- one that is left
      have hex : ∃ q, q ∈ pend ∨ q ∈ r := by
        cases pend with
        | cons q _ => exact ⟨q, .inl List.mem_cons_self⟩
        | nil =>
          cases r with
          | cons q _ => exact ⟨q, .inr List.mem_cons_self⟩
          | nil => exact absurd ⟨rfl, rfl⟩ hdone
      obtain ⟨q, hq⟩ := hex
      have hqk : q < k := S.ordLt q (h.sub q hq)
      have hqL : q < L.length := Nat.lt_of_lt_of_le hqk S.len
      have hqu : ¬ Lst l q := (h.part q hqL).2 (hq.elim .inl fun h => .inr (.inl h))
      refine ⟨fun h0 => absurd h0 (some_ready S h.size q hqL hqu), fun i hi => ?_⟩
      rw [ready_iff h.size] at hi
      obtain ⟨h1, h2, h3⟩ := hi
      have hil : i < l.size := by rw [h.size]; exact h1
      have hik : ¬ k ≤ i := fun hk => hqu (sink_all S h.closed hk h1 h3 (i - q) q rfl (by omega))
      have hcl := h.closed.set hil h3
      have hsz : (l.setIfInBounds i true).size = L.length := by simpa using h.size
      -- what an operation looks at is there
      have there : ∀ (si : List (Nat × Value)) (o : Oper), L[i]? = some o → i ∈ order → (∀ t u, look si t = some u → look s t = some u) → ∀ t ∈ o.looksAt L.toArray, ∀ u, look si t = some u → a.tmps.getD t undef = u := by
        intro si o ho hio hsub t ht u hu
        refine h.agree t u (hsub t u hu) fun p hp hpd => ?_
        have hpo := h.sub p (.inl hp)
        have := S.looks i hio p hpo t hpd (by rw [looksAtAt, ho]; exact ht)
        exact ((h.part p (Nat.lt_of_lt_of_le (S.ordLt p hpo) S.len)).2 (.inl hp)) (h3 p this)
      rcases (h.part i h1).1 h2 with hip | hir | hk
      · -- one whose value is known
        obtain ⟨o, d, v, si, mi, p1, p2, p3, p4, p5, ⟨m', p6⟩, p7⟩ := h.pd i hip
        have hio := h.sub i (.inl hip)
        have hdi : dstAt L i = some d := by rw [dstAt, p1]; exact p2
        obtain ⟨d', hd', hdN, _⟩ := S.dst i hio
        rw [hdi] at hd'
        cases hd'
        have hla := there si o p1 hio p5
        have hz := fillA_size si a
        refine step_congr (Q1 := XPost N D w0 O d v (mi ++ m')) (a' := fillA si a) (by simpa using p1) (S.plain i o p1) hz (fun t ht => fillA_get h.asize p4 (hla t ht)) (fun e b u hb => ⟨hb.1, by rw [hb.2.1, fillA_defers, h.adef]⟩)
          (p7 m' _ _ (fillA_has si a h.asize p4) (by rw [fillA_defers]; exact h.adef) (h.st.perm p6)) (fun u w' hb => ?_)
        obtain ⟨_, hb2, hb3, hb4⟩ := hb
        rw [p2, put_same (by rw [hz, h.asize]; exact hdN)] at hb3
        subst hb3
        rw [p2]
        have hnd := h.nodup
        rw [List.nodup_append] at hnd
        refine ih r (pend.erase i) s m _ _ _ ⟨hsz, hcl, fun j hj => ?_, fun j hj => h.sub j (hj.imp List.mem_of_mem_erase id), ?_, fun j hj => h.pd j (List.mem_of_mem_erase hj), fun t u' hu hp => ?_, h.fresh, by simp [Act.put, h.asize], by rw [put_defers]; exact h.adef, hb4.perm p6.symm, h.dr, h.chain, h.keys⟩ ?_
        · rw [lst_set hil, not_or, h.part j hj, hnd.1.mem_erase_iff]
          constructor
          · rintro ⟨hne, hh⟩; exact hh.imp (fun h => ⟨hne, h⟩) id
          · rintro (⟨hne, hh⟩ | hh | hh)
            · exact ⟨hne, .inl hh⟩
            · exact ⟨fun e => hnd.2.2 i hip j hh e.symm, .inr (.inl hh)⟩
            · exact ⟨fun e => hik (e ▸ hh), .inr (.inr hh)⟩
        · rw [List.nodup_append]
          exact ⟨hnd.1.erase i, hnd.2.1, fun x hx y hy => hnd.2.2 x (List.mem_of_mem_erase hx) y hy⟩
        · by_cases e : d = t
          · subst e
            rw [p3] at hu
            cases hu
            exact put_same (by rw [h.asize]; exact hdN)
          · rw [put_other e]
            refine h.agree t u' hu fun j hj hjd => ?_
            by_cases eji : j = i
            · subst eji; rw [hdi] at hjd; cases hjd; exact e rfl
            · exact hp j ((hnd.1.mem_erase_iff).2 ⟨eji, hj⟩) hjd
        · rw [List.length_erase_of_mem hip]
          have := List.length_pos_of_mem hip
          omega
      · -- the next of the chain
        obtain ⟨c, r', rfl, hc⟩ : ∃ c r'', r = c :: r'' ∧ cs.contains c = true := by
          rcases hr with rfl | hr
          · cases hir
          · exact hr
        have hic : i = c := by
          rcases List.mem_cons.1 hir with e | e
          · exact e
          · have := h.closed.reach (h.chain.1 hc i e) h3
            have hco := h.sub c (.inr List.mem_cons_self)
            exact absurd this ((h.part c (Nat.lt_of_lt_of_le (S.ordLt c hco) S.len)).2 (.inr (.inl List.mem_cons_self)))
        subst hic
        have hdr := h.dr
        obtain ⟨o, d, p1, p2, p3⟩ := hdr
        rw [if_pos hc] at p3
        have hio := h.sub i (.inr List.mem_cons_self)
        have hdi : dstAt L i = some d := by rw [dstAt, p1]; exact p2
        obtain ⟨d', hd', hdN, _⟩ := S.dst i hio
        rw [hdi] at hd'
        cases hd'
        have hf := h.fresh i List.mem_cons_self d hdi
        have hla := there s o p1 hio (fun _ _ h => h)
        have hz := fillA_size s a
        refine step_congr (a' := fillA s a) (by simpa using p1) (S.plain i o p1) hz (fun t ht => fillA_get h.asize h.keys (hla t ht)) (fun e b u hb => ⟨hb.1, by rw [hb.2.1, fillA_defers, h.adef]⟩)
          (p3 _ _ (fillA_has s a h.asize h.keys) (by rw [fillA_defers]; exact h.adef) h.st) (fun u w' hb => ?_)
        obtain ⟨_, hb2, v, m1, hb3, hb4, hb5⟩ := hb
        rw [p2, put_same (by rw [hz, h.asize]; exact hdN)] at hb3
        subst hb3
        rw [p2]
        have hnd := h.nodup
        have hnd2 := (List.perm_middle (l₁ := pend)).nodup_iff.1 hnd
        have hne : i ∉ pend ++ r' := (List.nodup_cons.1 hnd2).1
        refine ih r' pend ((d, u) :: s) (m1 ++ m) _ _ _ ⟨hsz, hcl, fun j hj => ?_, fun j hj => h.sub j (hj.imp id (List.mem_cons_of_mem _)), (List.nodup_cons.1 hnd2).2, fun j hj => (h.pd j hj).grow hf m1, fun t u' hu hp => ?_, fun j hj e he => ?_, by simp [Act.put, h.asize], by rw [put_defers]; exact h.adef, hb4, hb5, h.chain.2, ?_⟩ ?_
        · rw [lst_set hil, not_or, h.part j hj, List.mem_cons]
          simp only [List.mem_append, not_or] at hne
          constructor
          · rintro ⟨hji, hh | hh | hh⟩
            · exact .inl hh
            · rcases hh with hh | hh
              · exact absurd hh hji
              · exact .inr (.inl hh)
            · exact .inr (.inr hh)
          · rintro (hh | hh | hh)
            · exact ⟨fun e => hne.1 (e ▸ hh), .inl hh⟩
            · exact ⟨fun e => hne.2 (e ▸ hh), .inr (.inl (.inr hh))⟩
            · exact ⟨fun e => hik (e ▸ hh), .inr (.inr hh)⟩
        · by_cases e : d = t
          · subst e
            simp only [look, Nat.beq_refl, cond_true, Option.some.injEq] at hu
            subst hu
            exact put_same (by rw [h.asize]; exact hdN)
          · rw [put_other e]
            unfold look at hu
            rw [beq_no e] at hu
            exact h.agree t u' hu hp
        · have hne' : ¬ d = e := fun e' => by
            subst e'
            have := S.apart i hio j (h.sub j (.inr (List.mem_cons_of_mem _ hj))) d hdi he
            subst this
            exact hne (List.mem_append.2 (.inr hj))
          unfold look
          rw [beq_no hne']
          exact h.fresh j (List.mem_cons_of_mem _ hj) e he
        · simp only [keysB, Bool.and_eq_true]
          exact ⟨blt_iff.2 hdN, h.keys⟩
        · simp at hn ⊢; omega
      · exact absurd hk hik

/-- A REGION THAT DRAWS ITS ORDER. order: the operations ahead of the last ones, cs: those of them that make blocks; the rest waits for all. -/
theorem GC_draw {id : Nat} {m : List As} (order cs : List Nat) (k : Nat) (hm : P.follows .mixedOrders = true) (hok : okD L order cs k N s0 = true)
    (h0 : ∀ ops, OpsEq ops L → DR ro P N D w0 O ops L cs k Q order s0 m) : GC ro P N D w0 O (.region id L.toArray true) s0 m Q := fun a w hs hd hst => by
  have S := okD_spec hok
  refine wpIn_region_any hm (InvA.sound (D := D) (w0 := w0) (O := O) S _ order [] s0 m _ _ _ ?_ ?_)
  · have hno : ∀ i, ¬ Lst (Array.replicate L.toArray.size false) i := fun i => by
      unfold Lst
      by_cases h : i < L.length
      · simp [Array.getD, h]
      · simp [Array.getD, h]
    refine ⟨by simp, fun i hi => absurd hi (hno i), fun i hi => ?_, fun i hi => hi.elim (by simp) (fun h => h), by simpa using S.nodup, by simp, fun t u hu _ => hs.at_ t u hu, fun i hi d hd => ?_, hs.size, hd, hst.drew, h0 _ ⟨rfl⟩, S.chain, S.keys⟩
    · simp only [hno i, not_false_eq_true, true_iff, List.not_mem_nil, false_or]
      by_cases hk : i < k
      · exact .inl (S.ordMem i hk)
      · exact .inr (by omega)
    · obtain ⟨d', h1, _, h2⟩ := S.dst i hi
      rw [hd] at h1
      cases h1
      exact h2
  · have := S.len
    simp [S.ordLen]
    omega
end

/-! ### A cut: what is known at a place, for several ways that lead there -/
def Cut (N : Nat) (D : List Deferred) (w0 : World) (O : List Nat) (s : List (Nat × Value)) (m : List As) : Exit → Act → World → Prop :=
  fun e a w => e = .normal ∧ Has N s a ∧ a.defers = D ∧ St w0 O m w

theorem LetsOut.mono {Q Q' : Exit → Act → World → Prop} (h : ∀ e a w, Q e a w → Q' e a w) (hl : LetsOut Q) : LetsOut Q' := by
  obtain ⟨a, w, hq⟩ := hl
  exact ⟨a, w, h _ _ _ hq⟩

theorem wpIn_both {F : Fence} {n : Nat} {P : Program} {o : Oper} {a : Act} {w : World} {K K' : Act → World → Prop} {Q Q' : Exit → Act → World → Prop} (h : ∀ a w, K a w → K' a w) (hQ : ∀ e a w, Q e a w → Q' e a w)
    (hh : o.wpIn F n P a w K Q) : o.wpIn F n P a w K' Q' := by
  unfold Oper.wpIn at *
  refine ⟨hh.1, ?_⟩
  have hh := hh.2
  generalize (o.semAt F.round a.eval).run P w = r at *
  cases r with
  | ok x w' =>
    cases x <;> simp only [Oper.uponIn] at hh ⊢ <;>
      first
        | exact h _ _ hh
        | exact ⟨hh.1, CallsIn.mono hh.2 (fun e w'' he => by cases e <;> first | exact h _ _ he | exact hQ _ _ _ he | exact LetsOut.mono hQ he)⟩
        | exact ⟨hh.1, RowsIn.mono hh.2 (fun _ _ he => h _ _ he)⟩
        | exact ⟨hh.1, RoundIn.mono hh.2 (fun e w'' he => by cases e <;> first | exact h _ _ he | exact hQ _ _ _ he | exact LetsOut.mono hQ he)⟩
  | halt x w' => cases x <;> simp only [Oper.uponIn] at hh ⊢ <;> exact hQ _ _ _ hh

theorem wpL_mono {ro : Option Nat} {P : Program} {ops : Array Oper} {Q Q' : Exit → Act → World → Prop} (hQ : ∀ e a w, Q e a w → Q' e a w) : ∀ (l : List Oper) (a : Act) (w : World), wpL ro P ops Q l a w → wpL ro P ops Q' l a w
  | [], a, w, h => hQ _ _ _ h
  | o :: r, a, w, h => by
    simp only [wpL] at h ⊢
    split
    · rename_i hw
      rw [if_pos hw] at h
      exact wpIn_both (wpL_mono hQ r) hQ h
    · rename_i hw
      rw [if_neg hw] at h
      exact wpL_mono hQ r _ _ h

section
variable {ro : Option Nat} {P : Program} {N : Nat} {D : List Deferred} {w0 : World} {O : List Nat} {s s' : List (Nat × Value)} {m m' : List As} {Q : Exit → Act → World → Prop}
theorem G_cut {ops : Array Oper} {l : List Oper} (s' : List (Nat × Value)) (m' : List As) (h : G ro P N D w0 O ops l s m (Cut N D w0 O s' m')) (k : At N D w0 O .normal s' m' Q) : G ro P N D w0 O ops l s m Q := fun a w hs hd hw =>
  wpL_mono (fun e a w hc => by obtain ⟨rfl, h1, h2, h3⟩ := hc; exact k a w h1 h2 h3) l a w (h a w hs hd hw)
theorem GC_cut {x : Code} (s' : List (Nat × Value)) (m' : List As) (h : GC ro P N D w0 O x s m (Cut N D w0 O s' m')) (k : At N D w0 O .normal s' m' Q) : GC ro P N D w0 O x s m Q := fun a w hs hd hw =>
  Code.wpIn_mono (fun e a w hc => by obtain ⟨rfl, h1, h2, h3⟩ := hc; exact k a w h1 h2 h3) (h a w hs hd hw)
theorem At_cut (hs : subs s s') (hm : List.Sublist m' m) : At N D w0 O .normal s m (Cut N D w0 O s' m') := fun a w h1 h2 h3 => ⟨rfl, h1.sub hs.at_, h2, h3.drop hm⟩
end
end Go.Proofs.Ytjdbdjmfimbbkaa
