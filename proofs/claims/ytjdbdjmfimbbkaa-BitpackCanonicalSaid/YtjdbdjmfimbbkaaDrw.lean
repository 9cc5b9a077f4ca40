/- Regions that draw their order, by themselves: which operations go first, which make blocks, is a table by program. -/
import Derived.Test.YtjdbdjmfimbbkaaCall
import Derived.Test.YtjdbdjmfimbbkaaDraq
set_option linter.unusedVariables false
set_option linter.unusedSimpArgs false
namespace Go.Proofs.Ytjdbdjmfimbbkaa
open Go.RowKit

/-- of the drawing region id whose first operation stands at p and fills slot d: the order of those that go first, those of them that make blocks, how many they are, the slots they fill -/
class DrawI (p : String) (id d : Nat) (order cs : outParam (List Nat)) (k : outParam Nat) (ds : outParam (List Nat)) : Prop where
  ok : True

def dropS (ks : List Nat) : List (Nat × Value) → List (Nat × Value)
  | [] => []
  | (k, v) :: r => bif memN k ks then dropS ks r else (k, v) :: dropS ks r
theorem look_dropS {ks : List Nat} : ∀ {s : List (Nat × Value)} {t : Nat} {v : Value}, look (dropS ks s) t = some v → look s t = some v
  | [], t, v, h => h
  | (k, u) :: r, t, v, h => by
    unfold dropS at h
    cases hm : memN k ks with
    | true =>
      rw [hm] at h
      simp only [cond_true] at h
      have h1 := look_dropS h
      have hk : ¬ k = t := by
        rintro rfl
        have : ∀ {s : List (Nat × Value)}, look (dropS ks s) k = none := by
          intro s
          induction s with
          | nil => rfl
          | cons p r ih =>
            obtain ⟨j, w⟩ := p
            unfold dropS
            cases hj : memN j ks with
            | true => simpa using ih
            | false =>
              simp only [cond_false]
              unfold look
              have : ¬ j = k := by rintro rfl; rw [hm] at hj; cases hj
              rw [beq_no this]; exact ih
        rw [this] at h; cases h
      unfold look
      rw [beq_no hk]; exact h1
    | false =>
      rw [hm] at h
      simp only [cond_false] at h
      unfold look at h ⊢
      by_cases e : k = t
      · subst e; simpa using h
      · rw [beq_no e] at h ⊢
        exact look_dropS h

section
variable {ro : Option Nat} {P : Program} {N : Nat} {D : List Deferred} {w0 : World} {O : List Nat} {s s1 : List (Nat × Value)} {m : List As} {Q : Exit → Act → World → Prop}

class MixedR (P : Program) : Prop where
  ok : P.follows .mixedOrders = true

theorem GC_drawI {id d : Nat} {o : Op} {ty : TypeId} {p : String} {af : Array Edge} {g : Option (Nat × Bool)} {r : List Oper} {order cs ds : List Nat} {k : Nat} [hx : MixedR P] [hi : DrawI p id d order cs k ds]
    (h0 : ∀ (ops : Array Oper) [RegionR ops (⟨some d, o, ty, p, af, g⟩ :: r)], DQ ro P N D w0 O ops (⟨some d, o, ty, p, af, g⟩ :: r) cs k Q order s1 [] m)
    (hs : dropS ds s = s1 := by (try simp only [dropS, memN, slots, Nat.reduceBEq, Bool.or_false, Bool.or_true, Bool.false_or, Bool.true_or, cond_true, cond_false]); exact rfl) (hok : okD (⟨some d, o, ty, p, af, g⟩ :: r) order cs k N s1 = true := by kernel_rfl) :
    GC ro P N D w0 O (.region id (⟨some d, o, ty, p, af, g⟩ :: r).toArray true) s m Q := fun a w hsa hd hm => by
  subst hs
  exact GC_drawQ order cs k hx.ok hok (fun ops h => @h0 ops ⟨h.eq⟩) a w ⟨hsa.size, fun t v h => hsa.at_ t v (look_dropS h)⟩ hd hm

theorem DR_idx {α : Type} [Elt α] {ops : Array Oper} {L : List Oper} {cs : List Nat} {k i d : Nat} {r : List Nat} {t e ty : TypeId} {x y : Operand} {p : String} {af : Array Edge} {v : Value} {kx : IntKind} {z : Int} {j : Nat} {sd : Prop} {l : List α} {q am : List As} (ho : L[i]? = some ⟨some d, .indexAddr t x y, ty, p, af, none⟩) (hc : cs.contains i = false)
    [ht : Und P t (.slice e)] [hL : Lay P e α] (hx : ev s x = some v) (hy : ev s y = some (.int kx z)) (hN : Nat.blt d N = true) [ha : AppA q m am] [h : RdR w0 O am v l] [hj : NatR z j sd]
    (hr : [Fct (j < l.length)] → DQ ro P N D w0 O ops L cs k Q r ((d, .pointer (some (elP α v j))) :: s) [] am) (hs : sd ∧ j < l.length := by first | exact trivial | omega | (simp only [true_and, and_true, and_self]; omega) | exact ⟨trivial, rfl⟩ | exact ⟨rfl, rfl, by decide⟩ | rfl | (simp only [true_and, and_true, and_self]; done) | decide | assumption | exact ⟨by assumption, by omega⟩ | exact ⟨by assumption, by assumption⟩ | exact ⟨by assumption, by assumption, by omega⟩) : DQ ro P N D w0 O ops L cs k Q (i :: r) s q m :=
  DQ_x ho rfl hc (fun m' => by
    have h2 : RdR w0 O (am ++ m') v l := ⟨fun w hw => h.rd w (hw.drop (List.sublist_append_left _ _))⟩
    exact G_idxR hx hy hN (G_nil (X_done (by simp [look]) (List.Sublist.refl _))) hs) (@hr ⟨hs.2⟩)

theorem G_nilC {ops : Array Oper} {s' : List (Nat × Value)} {m' : List As} {d : Nat} {R : Value → List As → Prop} (h : At N D w0 O .normal s' m' (CPostQ N D w0 O d m R)) : G ro P N D w0 O ops [] s' m' (CPostQ N D w0 O d m R) := G_nil h
section
variable {α : Type} [Elt α] {ops : Array Oper} {L : List Oper} {cs : List Nat} {k i d : Nat} {r : List Nat} {t e ty : TypeId} {x y y' : Operand} {p : String} {af : Array Edge} {v : Value} {z z' : Int} {j j' : Nat} {sd sd' : Prop} {l : List α} {q am : List As}
theorem DR_cutLo (ho : L[i]? = some ⟨some d, .slice t x (some y) none none, ty, p, af, none⟩) (hc : cs.contains i = false)
    [ht : Und P t (.slice e)] [hL : Lay P e α] (hx : ev s x = some v) (hy : ev s y = some (I z)) (hN : Nat.blt d N = true) [ha : AppA q m am] [h : RdR w0 O am v l] [hj : NatR z j sd]
    (hr : [Fct (j ≤ l.length ∧ l.length ≤ l.length)] → DQ ro P N D w0 O ops L cs k Q r ((d, cut α v j l.length) :: s) [] am) (hs : sd ∧ j ≤ l.length := by first | exact trivial | omega | (simp only [true_and, and_true, and_self]; omega) | exact ⟨trivial, rfl⟩ | exact ⟨rfl, rfl, by decide⟩ | rfl | (simp only [true_and, and_true, and_self]; done) | decide | assumption | exact ⟨by assumption, by omega⟩ | exact ⟨by assumption, by assumption⟩ | exact ⟨by assumption, by assumption, by omega⟩) : DQ ro P N D w0 O ops L cs k Q (i :: r) s q m :=
  DQ_x ho rfl hc (fun m' => by
    have h2 : RdR w0 O (am ++ m') v l := ⟨fun w hw => h.rd w (hw.drop (List.sublist_append_left _ _))⟩
    exact G_cutLo hx hy hN (G_nil (X_done (by simp [look]) (List.Sublist.refl _))) hs) (@hr ⟨hs.2, Nat.le_refl _⟩)
/-- .. under a guard that holds -/
theorem DR_sliceG {o : Op} {b : Bool} {dst : Option Nat} {j0 d' : Nat} {lr : List Oper} {x1 : Operand} {y1 y2 y3 : Option Operand} (ho : L[i]? = some ⟨some d, .slice t x1 y1 y2 y3, ty, p, af, some (j0, b)⟩) [hr : RegionR ops lr]
    (k' : GAt ops j0 d' (DQ ro P N D w0 O ops L cs k Q (i :: r) s q m)) (hj : (lr[j0]?).bind (·.dst) = some d' := by rfl) : DQ ro P N D w0 O ops L cs k Q (i :: r) s q m := k' (by rw [hr.eq]; simpa using hj)
theorem DR_cutLoT {j0 d' : Nat} {gv : Value} (hg : look s d' = some gv) [hT : TrueV gv] (ho : L[i]? = some ⟨some d, .slice t x (some y) none none, ty, p, af, some (j0, true)⟩) (hc : cs.contains i = false)
    [ht : Und P t (.slice e)] [hL : Lay P e α] (hx : ev s x = some v) (hy : ev s y = some (I z)) (hN : Nat.blt d N = true) [ha : AppA q m am] [h : RdR w0 O am v l] [hj : NatR z j sd]
    (hr : [Fct (j ≤ l.length ∧ l.length ≤ l.length)] → DQ ro P N D w0 O ops L cs k Q r ((d, cut α v j l.length) :: s) [] am) (hs : sd ∧ j ≤ l.length := by first | exact trivial | omega | (simp only [true_and, and_true, and_self]; omega) | exact ⟨trivial, rfl⟩ | exact ⟨rfl, rfl, by decide⟩ | rfl | (simp only [true_and, and_true, and_self]; done) | decide | assumption | exact ⟨by assumption, by omega⟩ | exact ⟨by assumption, by assumption⟩ | exact ⟨by assumption, by assumption, by omega⟩) : GAt ops j0 d' (DQ ro P N D w0 O ops L cs k Q (i :: r) s q m) := fun hjd =>
  DQ_x ho rfl hc (fun m' => by
    have h2 : RdR w0 O (am ++ m') v l := ⟨fun w hw => h.rd w (hw.drop (List.sublist_append_left _ _))⟩
    exact G_guardT hg (G_cutLo hx hy hN (G_nil (X_done (by simp [look]) (List.Sublist.refl _))) hs) (by simp) hjd) (@hr ⟨hs.2, Nat.le_refl _⟩)
theorem DR_cutHi (ho : L[i]? = some ⟨some d, .slice t x none (some y) none, ty, p, af, none⟩) (hc : cs.contains i = false)
    [ht : Und P t (.slice e)] [hL : Lay P e α] (hx : ev s x = some v) (hy : ev s y = some (I z)) (hN : Nat.blt d N = true) [ha : AppA q m am] [h : RdR w0 O am v l] [hj : NatR z j sd]
    (hr : [Fct (0 ≤ j ∧ j ≤ l.length)] → DQ ro P N D w0 O ops L cs k Q r ((d, cut α v 0 j) :: s) [] am) (hs : sd ∧ j ≤ l.length := by first | exact trivial | omega | (simp only [true_and, and_true, and_self]; omega) | exact ⟨trivial, rfl⟩ | exact ⟨rfl, rfl, by decide⟩ | rfl | (simp only [true_and, and_true, and_self]; done) | decide | assumption | exact ⟨by assumption, by omega⟩ | exact ⟨by assumption, by assumption⟩ | exact ⟨by assumption, by assumption, by omega⟩) : DQ ro P N D w0 O ops L cs k Q (i :: r) s q m :=
  DQ_x ho rfl hc (fun m' => by
    have h2 : RdR w0 O (am ++ m') v l := ⟨fun w hw => h.rd w (hw.drop (List.sublist_append_left _ _))⟩
    exact G_cutHi hx hy hN (G_nil (X_done (by simp [look]) (List.Sublist.refl _))) hs) (@hr ⟨Nat.zero_le _, hs.2⟩)
theorem DR_cutBoth (ho : L[i]? = some ⟨some d, .slice t x (some y) (some y') none, ty, p, af, none⟩) (hc : cs.contains i = false)
    [ht : Und P t (.slice e)] [hL : Lay P e α] (hx : ev s x = some v) (hy : ev s y = some (I z)) (hz : ev s y' = some (I z')) (hN : Nat.blt d N = true) [ha : AppA q m am] [h : RdR w0 O am v l] [hj : NatR z j sd] [hj' : NatR z' j' sd']
    (hr : [Fct (j ≤ j' ∧ j' ≤ l.length)] → DQ ro P N D w0 O ops L cs k Q r ((d, cut α v j j') :: s) [] am) (hs : (sd ∧ sd') ∧ j ≤ j' ∧ j' ≤ l.length := by first | exact trivial | omega | (simp only [true_and, and_true, and_self]; omega) | exact ⟨trivial, rfl⟩ | exact ⟨rfl, rfl, by decide⟩ | rfl | (simp only [true_and, and_true, and_self]; done) | decide | assumption | exact ⟨by assumption, by omega⟩ | exact ⟨by assumption, by assumption⟩ | exact ⟨by assumption, by assumption, by omega⟩) : DQ ro P N D w0 O ops L cs k Q (i :: r) s q m :=
  DQ_x ho rfl hc (fun m' => by
    have h2 : RdR w0 O (am ++ m') v l := ⟨fun w hw => h.rd w (hw.drop (List.sublist_append_left _ _))⟩
    exact G_cutBoth hx hy hz hN (G_nil (X_done (by simp [look]) (List.Sublist.refl _))) hs) (@hr ⟨hs.2⟩)
end
end

section
variable {α : Type} [Elt α] {w0 : World} {O : List Nat} {v : Value} {xs : List α} {x : As} {r l : List As}
instance rdR_app [h : RdR w0 O (x :: (r ++ l)) v xs] : RdR w0 O ((x :: r) ++ l) v xs := h
instance rdR_app0 [h : RdR w0 O l v xs] : RdR w0 O ([] ++ l) v xs := h
end
section
variable {ro : Option Nat} {P : Program} {N : Nat} {D : List Deferred} {w0 : World} {O : List Nat} {ops : Array Oper} {l : List Oper} {s : List (Nat × Value)} {m : List As} {Q : Exit → Act → World → Prop}
variable {d : Option Nat} {ty : TypeId} {pos : String} {af : Array Edge}
theorem Is_G (h : G ro P N D w0 O ops l s m Q) : G ro P N D w0 O ops l s m Q := h
theorem Is_GC {c : Code} (h : GC ro P N D w0 O c s m Q) : GC ro P N D w0 O c s m Q := h
theorem Is_At {e : Exit} (h : At N D w0 O e s m Q) : At N D w0 O e s m Q := h
theorem Is_GAt {j d' : Nat} {X : Prop} (h : GAt ops j d' X) : GAt ops j d' X := h
theorem Is_cond {c : Operand} {x y : Code} (h : GC ro P N D w0 O (.cond c x y) s m Q) : GC ro P N D w0 O (.cond c x y) s m Q := h
theorem Is_callv {c : Operand} {x : Array Operand} {t : Array TypeId} (h : G ro P N D w0 O ops (⟨d, .call ⟨.value c, x, t⟩, ty, pos, af, none⟩ :: l) s m Q) : G ro P N D w0 O ops (⟨d, .call ⟨.value c, x, t⟩, ty, pos, af, none⟩ :: l) s m Q := h
theorem Is_alloc {t : TypeId} (h : G ro P N D w0 O ops (⟨d, .alloc t, ty, pos, af, none⟩ :: l) s m Q) : G ro P N D w0 O ops (⟨d, .alloc t, ty, pos, af, none⟩ :: l) s m Q := h
theorem Is_make {t : TypeId} {x y : Operand} (h : G ro P N D w0 O ops (⟨d, .makeSlice t x y, ty, pos, af, none⟩ :: l) s m Q) : G ro P N D w0 O ops (⟨d, .makeSlice t x y, ty, pos, af, none⟩ :: l) s m Q := h
theorem Is_box {t : TypeId} {x : Operand} (h : G ro P N D w0 O ops (⟨d, .box t x, ty, pos, af, none⟩ :: l) s m Q) : G ro P N D w0 O ops (⟨d, .box t x, ty, pos, af, none⟩ :: l) s m Q := h
theorem Is_build {t : TypeId} {x : Array (Nat × Operand)} (h : G ro P N D w0 O ops (⟨d, .build t x, ty, pos, af, none⟩ :: l) s m Q) : G ro P N D w0 O ops (⟨d, .build t x, ty, pos, af, none⟩ :: l) s m Q := h
theorem Is_lit {t : TypeId} {n : Nat} {x : Array (Nat × Operand)} (h : G ro P N D w0 O ops (⟨d, .buildSlice t n x, ty, pos, af, none⟩ :: l) s m Q) : G ro P N D w0 O ops (⟨d, .buildSlice t n x, ty, pos, af, none⟩ :: l) s m Q := h
theorem Is_slice {t : TypeId} {x : Operand} {a b c : Option Operand} (h : G ro P N D w0 O ops (⟨d, .slice t x a b c, ty, pos, af, none⟩ :: l) s m Q) : G ro P N D w0 O ops (⟨d, .slice t x a b c, ty, pos, af, none⟩ :: l) s m Q := h
end
end Go.Proofs.Ytjdbdjmfimbbkaa
