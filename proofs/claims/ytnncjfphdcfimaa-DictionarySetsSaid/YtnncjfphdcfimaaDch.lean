/- Dictionary: the strings of a packed form. -/
import Derived.Test.YtnncjfphdcfimaaDcf
import Derived.Test.YtnncjfphdcfimaaDcg
set_option linter.unusedVariables false
set_option linter.unusedSimpArgs false
set_option maxRecDepth 100000
set_option maxHeartbeats 4000000
namespace Go.Proofs.Ytnncjfphdcfimaa
open Go.RowKit
attribute [local irreducible] G GC At wpL DR XPost CPost Cut GA GAR GAX GAt NxA GH GHR NxH
attribute [local irreducible] ofD srtL cmpL

theorem GC_drawB {ro : Option Nat} {P : Program} {N : Nat} {D : List Deferred} {w0 : World} {O : List Nat} {s s1 : List (Nat × Value)} {m : List As} {Q : Exit → Act → World → Prop} {id d : Nat} {o : Op} {ty : TypeId} {p : String} {af : Array Edge} {g : Option (Nat × Bool)} {r : List Oper} {order cs ds : List Nat} {k : Nat} {m0 : List As} (b : Nat) {ob : Obj} [hx : MixedR P] [hi : DrawI p id d order cs k ds] [hb : BoxR b m ob m0]
    (h0 : ∀ (ops : Array Oper) [RegionR ops (⟨some d, o, ty, p, af, g⟩ :: r)], DQ ro P N D w0 O ops (⟨some d, o, ty, p, af, g⟩ :: r) cs [] k Q order s1 [.box b ob] m0)
    (hs : dropS ds s = s1 := by (try simp only [dropS, memN, slots, Nat.reduceBEq, Bool.or_false, Bool.or_true, Bool.false_or, Bool.true_or, cond_true, cond_false]); exact rfl) (hok : okE (⟨some d, o, ty, p, af, g⟩ :: r) order cs [] k N s1 = true := by kernel_rfl) :
    GC ro P N D w0 O (.region id (⟨some d, o, ty, p, af, g⟩ :: r).toArray true) s m Q :=
  GC_drawP (q0 := [.box b ob]) (hsp := ⟨hb.ent⟩) h0 hs hok
/-- a reader's variable -/
abbrev rdO (u : Value) (e : Int) : Obj := .cells #[u, I e] 79
abbrev rdP (rb : Nat) : Obj := .cells #[.pointer (some ⟨rb, 0, none⟩)] 77
theorem tk_step {α : Type} {L rest : List α} {k : Nat} {x : α} (h0 : k ≤ L.length) (h : L = L.take k ++ (x :: rest)) : ∃ hk : k < L.length, L[k] = x ∧ L = L.take (k + 1) ++ rest := by
  have hk : k < L.length := by
    have := congrArg List.length h
    simp only [List.length_append, List.length_take, List.length_cons] at this
    omega
  have hg : L[k] = x := by
    have h5 : L[k]? = some x := by
      rw [h, List.getElem?_append_right (by rw [List.length_take]; omega)]
      simp [Nat.min_eq_left h0]
    rw [List.getElem?_eq_getElem hk] at h5
    exact Option.some.inj h5
  refine ⟨hk, hg, ?_⟩
  rw [List.take_succ_eq_append_getElem hk, hg, List.append_assoc]
  exact h
theorem it_strs {X : Type} (w0 : World) (O : List Nat) (v : Value) (bs : List (BitVec 8)) (b1 rb yl : Nat) (J : Nat → X → List As) (x0 : X) [h : RdOld w0 O v bs] (hb : bs.length ≤ 1000000)
    (hy : ∀ w1 O1 [RebT w0 O w1 O1] k (hk : k < (unD bs).1.length) x u, YdX Try.prog yl [.string (unD bs).1[k]] w1 O1 (.box rb (rdO u 0) :: .box b1 (rdP rb) :: J k x) (fun bb _ => bb = true) (fun _ => (0 : Nat)) (fun _ x' => .box rb (rdO u 0) :: .box b1 (rdP rb) :: J (k + 1) x'))
    (w : World) (hst : St w0 O (.box b1 (rdP rb) :: .box rb (rdO v 0) :: J 0 x0) w) :
    Calls Try.prog 60 #[yv yl, .pointer (some ⟨b1, 0, none⟩)] w (fun e w' => (∃ v, e = .returned v) ∧ ∃ x qv er, St w0 O (.box rb (rdO qv er) :: J (unD bs).1.length x) w' ∧ match (unD bs).2 with | .ok q => er = 0 ∧ RdOld w0 O qv q | .error e => er = e) := by
  have hlen := h.rd.len_le
  cases h1 : rdB bs with
  | error e =>
    have he := rd_err h1
    have hu : unD bs = ([], .error e) := by rw [unD, h1]
    haveI : Eqn (rdB bs) (.error e) := ⟨h1⟩
    haveI : Fct (¬ e = 0) := ⟨by omega⟩
    rw [hu]
    refine enterF (N := 105) (args := [yv yl, .pointer (some ⟨b1, 0, none⟩)]) Try.func60 rfl rfl rfl hst ?_
    repeat' (first
  | refine G_nilC ?_
  | refine G_nilN ?_
  | refine G_nilH ?_
  | (refine G_nil ?_; try clear ri_; try clear ops_)
  | (refine V_op ?_; first | exact True.intro | (intro v_ h_ w_ r_ t_; try (obtain ⟨ta_, tb_⟩ := (t_ : _ ∧ _)); try (obtain ⟨tb_, tc_⟩ := (tb_ : _ ∧ _)); try (obtain ⟨tc_, td_⟩ := (tc_ : _ ∧ _)); try (obtain ⟨td_, te_⟩ := (td_ : _ ∧ _))) | intro (ops_ : Array Oper) ri_ | intro (b_ : Bool) hb_ | (intro v_ h_; try (have o_ := FrzK.one h_)) | intro (v_ : Value) | intro (b_ : Nat) | (refine ⟨fun hc => ?_, fun hc => ?_⟩ <;> try (exfalso; omega)) | refine ⟨?_, ?_⟩ | intro _ | skip)
  | (refine Is_DQ ?_; first | (apply DQ_m rfl rfl rfl rfl; focus (intro wq_ Oq_ rq_ mm; (repeat (first | (refine G_nil ?_; exact X_done rfl (List.Sublist.refl _)) | refine V_op ?_)); done)) | (apply DQ_k rfl rfl rfl rfl; intro wq_ Oq_ rq_ mm) | (apply DQ_y rfl rfl rfl rfl; intro wq_ Oq_ rq_ mm)))
    refine GC_loopS (X := Unit) (fun _ => True) (fun _ s => s) (fun _ q => q) (fun _ => 0) () trivial trivial ?_
    intro _ _
    repeat' (first
  | refine G_nilC ?_
  | refine G_nilN ?_
  | refine G_nilH ?_
  | (refine G_nil ?_; try clear ri_; try clear ops_)
  | (refine V_op ?_; first | exact True.intro | (intro v_ h_ w_ r_ t_; try (obtain ⟨ta_, tb_⟩ := (t_ : _ ∧ _)); try (obtain ⟨tb_, tc_⟩ := (tb_ : _ ∧ _)); try (obtain ⟨tc_, td_⟩ := (tc_ : _ ∧ _)); try (obtain ⟨td_, te_⟩ := (td_ : _ ∧ _))) | intro (ops_ : Array Oper) ri_ | intro (b_ : Bool) hb_ | (intro v_ h_; try (have o_ := FrzK.one h_)) | intro (v_ : Value) | intro (b_ : Nat) | (refine ⟨fun hc => ?_, fun hc => ?_⟩ <;> try (exfalso; omega)) | refine ⟨?_, ?_⟩ | intro _ | skip)
  | (refine Is_DQ ?_; first | (apply DQ_m rfl rfl rfl rfl; focus (intro wq_ Oq_ rq_ mm; (repeat (first | (refine G_nil ?_; exact X_done rfl (List.Sublist.refl _)) | refine V_op ?_)); done)) | (apply DQ_k rfl rfl rfl rfl; intro wq_ Oq_ rq_ mm) | (apply DQ_y rfl rfl rfl rfl; intro wq_ Oq_ rq_ mm)))
    refine ret_none_n rfl fun w' h' => ?_
    exact ⟨⟨_, rfl⟩, x0, .slice none 0 0, e, SubM.ent.st h', rfl⟩
  | ok p =>
    obtain ⟨u, k0⟩ := p
    haveI : Eqn (rdB bs) (.ok (u, k0)) := ⟨h1⟩
    have hk0 := rdB_le h1
    by_cases hu : 4096 < u.toNat
    · have hun : unD bs = ([], .error 5) := by rw [unD, h1]; simp only; rw [if_pos hu]
      rw [hun]
      haveI : No (min (u.toNat : Int) (4096 + 1) ≤ 4096) := ⟨by omega⟩
      refine enterF (N := 105) (args := [yv yl, .pointer (some ⟨b1, 0, none⟩)]) Try.func60 rfl rfl rfl hst ?_
      repeat' (first
  | refine G_nilC ?_
  | refine G_nilN ?_
  | refine G_nilH ?_
  | (refine G_nil ?_; try clear ri_; try clear ops_)
  | (refine V_op ?_; first | exact True.intro | (intro v_ h_ w_ r_ t_; try (obtain ⟨ta_, tb_⟩ := (t_ : _ ∧ _)); try (obtain ⟨tb_, tc_⟩ := (tb_ : _ ∧ _)); try (obtain ⟨tc_, td_⟩ := (tc_ : _ ∧ _)); try (obtain ⟨td_, te_⟩ := (td_ : _ ∧ _))) | intro (ops_ : Array Oper) ri_ | intro (b_ : Bool) hb_ | (intro v_ h_; try (have o_ := FrzK.one h_)) | intro (v_ : Value) | intro (b_ : Nat) | (refine ⟨fun hc => ?_, fun hc => ?_⟩ <;> try (exfalso; omega)) | refine ⟨?_, ?_⟩ | intro _ | skip)
  | (refine Is_DQ ?_; first | (apply DQ_m rfl rfl rfl rfl; focus (intro wq_ Oq_ rq_ mm; (repeat (first | (refine G_nil ?_; exact X_done rfl (List.Sublist.refl _)) | refine V_op ?_)); done)) | (apply DQ_k rfl rfl rfl rfl; intro wq_ Oq_ rq_ mm) | (apply DQ_y rfl rfl rfl rfl; intro wq_ Oq_ rq_ mm)))
      refine GC_loopS (X := Unit) (fun _ => True) (fun _ s => s) (fun _ q => q) (fun _ => 0) () trivial trivial ?_
      intro _ _
      repeat' (first
  | refine G_nilC ?_
  | refine G_nilN ?_
  | refine G_nilH ?_
  | (refine G_nil ?_; try clear ri_; try clear ops_)
  | (refine V_op ?_; first | exact True.intro | (intro v_ h_ w_ r_ t_; try (obtain ⟨ta_, tb_⟩ := (t_ : _ ∧ _)); try (obtain ⟨tb_, tc_⟩ := (tb_ : _ ∧ _)); try (obtain ⟨tc_, td_⟩ := (tc_ : _ ∧ _)); try (obtain ⟨td_, te_⟩ := (td_ : _ ∧ _))) | intro (ops_ : Array Oper) ri_ | intro (b_ : Bool) hb_ | (intro v_ h_; try (have o_ := FrzK.one h_)) | intro (v_ : Value) | intro (b_ : Nat) | (refine ⟨fun hc => ?_, fun hc => ?_⟩ <;> try (exfalso; omega)) | refine ⟨?_, ?_⟩ | intro _ | skip)
  | (refine Is_DQ ?_; first | (apply DQ_m rfl rfl rfl rfl; focus (intro wq_ Oq_ rq_ mm; (repeat (first | (refine G_nil ?_; exact X_done rfl (List.Sublist.refl _)) | refine V_op ?_)); done)) | (apply DQ_k rfl rfl rfl rfl; intro wq_ Oq_ rq_ mm) | (apply DQ_y rfl rfl rfl rfl; intro wq_ Oq_ rq_ mm)))
      refine ret_none_n rfl fun w' h' => ?_
      exact ⟨⟨_, rfl⟩, x0, cut (BitVec 8) v k0 bs.length, 5, SubM.ent.st h', rfl⟩
    · have hun : unD bs = unS u.toNat true [] (bs.drop k0) := by rw [unD, h1]; simp only; rw [if_neg hu]
      haveI : Eqn (min (u.toNat : Int) (4096 + 1)) (u.toNat : Int) := ⟨by omega⟩
      haveI : Yes ((u.toNat : Int) ≤ 4096) := ⟨by omega⟩
      refine enterF (N := 105) (args := [yv yl, .pointer (some ⟨b1, 0, none⟩)]) Try.func60 rfl rfl rfl hst ?_
      repeat' (first
  | refine G_nilC ?_
  | refine G_nilN ?_
  | refine G_nilH ?_
  | (refine G_nil ?_; try clear ri_; try clear ops_)
  | (refine V_op ?_; first | exact True.intro | (intro v_ h_ w_ r_ t_; try (obtain ⟨ta_, tb_⟩ := (t_ : _ ∧ _)); try (obtain ⟨tb_, tc_⟩ := (tb_ : _ ∧ _)); try (obtain ⟨tc_, td_⟩ := (tc_ : _ ∧ _)); try (obtain ⟨td_, te_⟩ := (td_ : _ ∧ _))) | intro (ops_ : Array Oper) ri_ | intro (b_ : Bool) hb_ | (intro v_ h_; try (have o_ := FrzK.one h_)) | intro (v_ : Value) | intro (b_ : Nat) | (refine ⟨fun hc => ?_, fun hc => ?_⟩ <;> try (exfalso; omega)) | refine ⟨?_, ?_⟩ | intro _ | skip)
  | (refine Is_DQ ?_; first | (apply DQ_m rfl rfl rfl rfl; focus (intro wq_ Oq_ rq_ mm; (repeat (first | (refine G_nil ?_; exact X_done rfl (List.Sublist.refl _)) | refine V_op ?_)); done)) | (apply DQ_k rfl rfl rfl rfl; intro wq_ Oq_ rq_ mm) | (apply DQ_y rfl rfl rfl rfl; intro wq_ Oq_ rq_ mm)))
      refine GC_loopE (X := Nat × Value × ByteArray × List (BitVec 8) × X) (fun _ _ y => y.1 ≤ u.toNat ∧ y.1 ≤ (unD bs).1.length ∧ (bL y.2.2.1).length ≤ 255 ∧ y.2.2.2.1.length ≤ 1000000 ∧ RdOld w0 O y.2.1 y.2.2.2.1 ∧
          (unD bs).1 = (unD bs).1.take y.1 ++ (unS (u.toNat - y.1) (decide (y.1 = 0)) (bL y.2.2.1) y.2.2.2.1).1 ∧ (unD bs).2 = (unS (u.toNat - y.1) (decide (y.1 = 0)) (bL y.2.2.1) y.2.2.2.1).2)
        (fun y s => (5, I y.1) :: (4, .string y.2.2.1) :: s) (fun y => .box b1 (rdP rb) :: .box rb (rdO y.2.1 0) :: J y.1 y.2.2.2.2) (fun y => u.toNat - y.1) (0, cut (BitVec 8) v k0 bs.length, ⟨#[]⟩, bs.drop k0, x0)
        (fun _ => ⟨Nat.zero_le _, Nat.zero_le _, Nat.zero_le _, by simp only [List.length_drop]; omega, h.rest hk0.2, by rw [hun]; rfl, by rw [hun]; rfl⟩) (by repeat (first | exact trivial | refine And.intro rfl ?_)) ?_
      rintro ⟨k, qv, bf, q, x⟩ w1 hr1 ⟨a1, a2, a3, a4, a5, a6, a7⟩
      simp only at a1 a2 a3 a4 a5 a6 a7 ⊢
      by_cases hk : k < u.toNat
      · obtain ⟨n, hn⟩ : ∃ n, u.toNat - k = n + 1 := ⟨u.toNat - k - 1, by omega⟩
        rw [hn, unS] at a6 a7
        cases h2 : rdB q with
        | error e =>
          have ho : oneS (decide (k = 0)) (bL bf) q = .error e := by rw [oneS, h2]
          rw [ho] at a6 a7
          simp only [List.append_nil] at a6 a7
          haveI : Eqn (rdB q) (.error e) := ⟨h2⟩
          haveI : Fct (¬ e = 0) := ⟨by have := rd_err h2; omega⟩
          repeat' (first
  | refine G_nilC ?_
  | refine G_nilN ?_
  | refine G_nilH ?_
  | (refine G_nil ?_; try clear ri_; try clear ops_)
  | (refine V_op ?_; first | exact True.intro | (intro v_ h_ w_ r_ t_; try (obtain ⟨ta_, tb_⟩ := (t_ : _ ∧ _)); try (obtain ⟨tb_, tc_⟩ := (tb_ : _ ∧ _)); try (obtain ⟨tc_, td_⟩ := (tc_ : _ ∧ _)); try (obtain ⟨td_, te_⟩ := (td_ : _ ∧ _))) | intro (ops_ : Array Oper) ri_ | intro (b_ : Bool) hb_ | (intro v_ h_; try (have o_ := FrzK.one h_)) | intro (v_ : Value) | intro (b_ : Nat) | (refine ⟨fun hc => ?_, fun hc => ?_⟩ <;> try (exfalso; omega)) | refine ⟨?_, ?_⟩ | intro _ | skip)
  | (refine Is_DQ ?_; first | (apply DQ_m rfl rfl rfl rfl; focus (intro wq_ Oq_ rq_ mm; (repeat (first | (refine G_nil ?_; exact X_done rfl (List.Sublist.refl _)) | refine V_op ?_)); done)) | (apply DQ_k rfl rfl rfl rfl; intro wq_ Oq_ rq_ mm) | (apply DQ_y rfl rfl rfl rfl; intro wq_ Oq_ rq_ mm)))
          refine GC_drawB rb (hi := Dr_60_6) ?_
          intro ops_ ri_
          repeat' (first
  | refine G_nilC ?_
  | refine G_nilN ?_
  | refine G_nilH ?_
  | (refine G_nil ?_; try clear ri_; try clear ops_)
  | (refine Is_DQ ?_; apply DQ_m rfl rfl rfl rfl; intro wq_ Oq_ rq_ mm)
  | (refine V_op ?_; first | exact True.intro | (intro v_ h_ w_ r_ t_; try (obtain ⟨ta_, tb_⟩ := (t_ : _ ∧ _)); try (obtain ⟨tb_, tc_⟩ := (tb_ : _ ∧ _)); try (obtain ⟨tc_, td_⟩ := (tc_ : _ ∧ _)); try (obtain ⟨td_, te_⟩ := (td_ : _ ∧ _))) | intro (ops_ : Array Oper) ri_ | intro (b_ : Bool) hb_ | (intro v_ h_; try (have o_ := FrzK.one h_)) | intro (v_ : Value) | intro (b_ : Nat) | (refine ⟨fun hc => ?_, fun hc => ?_⟩ <;> try (exfalso; omega)) | refine ⟨?_, ?_⟩ | intro _ | skip)
  | (refine Is_DQ ?_; first | (apply DQ_m rfl rfl rfl rfl; focus (intro wq_ Oq_ rq_ mm; (repeat (first | (refine G_nil ?_; exact X_done rfl (List.Sublist.refl _)) | refine V_op ?_)); done)) | (apply DQ_k rfl rfl rfl rfl; intro wq_ Oq_ rq_ mm) | (apply DQ_y rfl rfl rfl rfl; intro wq_ Oq_ rq_ mm)))
          all_goals
            refine ret_ rfl ResAll.nil fun w' h' => ?_
            have ek : k = (unD bs).1.length := by have := congrArg List.length a6; rw [List.length_take] at this; omega
            subst ek
            rw [a7]
            exact ⟨⟨_, rfl⟩, x, _, _, RebT.h _ _ (SubM.ent.st h' : St _ _ (.box rb (rdO (.slice none 0 0) e) :: J (unD bs).1.length x) w'), rfl⟩
        | ok p2 =>
          obtain ⟨u2, k2⟩ := p2
          haveI : Eqn (rdB q) (.ok (u2, k2)) := ⟨h2⟩
          have hk2 := rdB_le h2
          cases h3 : rdB (q.drop k2) with
          | error e =>
            have ho : oneS (decide (k = 0)) (bL bf) q = .error e := by rw [oneS, h2]; simp only; rw [h3]
            rw [ho] at a6 a7
            simp only [List.append_nil] at a6 a7
            haveI : Eqn (rdB (q.drop k2)) (.error e) := ⟨h3⟩
            haveI : Fct (¬ e = 0) := ⟨by have := rd_err h3; omega⟩
            repeat' (first
  | refine G_nilC ?_
  | refine G_nilN ?_
  | refine G_nilH ?_
  | (refine G_nil ?_; try clear ri_; try clear ops_)
  | (refine V_op ?_; first | exact True.intro | (intro v_ h_ w_ r_ t_; try (obtain ⟨ta_, tb_⟩ := (t_ : _ ∧ _)); try (obtain ⟨tb_, tc_⟩ := (tb_ : _ ∧ _)); try (obtain ⟨tc_, td_⟩ := (tc_ : _ ∧ _)); try (obtain ⟨td_, te_⟩ := (td_ : _ ∧ _))) | intro (ops_ : Array Oper) ri_ | intro (b_ : Bool) hb_ | (intro v_ h_; try (have o_ := FrzK.one h_)) | intro (v_ : Value) | intro (b_ : Nat) | (refine ⟨fun hc => ?_, fun hc => ?_⟩ <;> try (exfalso; omega)) | refine ⟨?_, ?_⟩ | intro _ | skip)
  | (refine Is_DQ ?_; first | (apply DQ_m rfl rfl rfl rfl; focus (intro wq_ Oq_ rq_ mm; (repeat (first | (refine G_nil ?_; exact X_done rfl (List.Sublist.refl _)) | refine V_op ?_)); done)) | (apply DQ_k rfl rfl rfl rfl; intro wq_ Oq_ rq_ mm) | (apply DQ_y rfl rfl rfl rfl; intro wq_ Oq_ rq_ mm)))
            refine GC_drawB rb (hi := Dr_60_6) ?_
            intro ops_ ri_
            repeat' (first
  | refine G_nilC ?_
  | refine G_nilN ?_
  | refine G_nilH ?_
  | (refine G_nil ?_; try clear ri_; try clear ops_)
  | (refine Is_DQ ?_; apply DQ_m rfl rfl rfl rfl; intro wq_ Oq_ rq_ mm)
  | (refine V_op ?_; first | exact True.intro | (intro v_ h_ w_ r_ t_; try (obtain ⟨ta_, tb_⟩ := (t_ : _ ∧ _)); try (obtain ⟨tb_, tc_⟩ := (tb_ : _ ∧ _)); try (obtain ⟨tc_, td_⟩ := (tc_ : _ ∧ _)); try (obtain ⟨td_, te_⟩ := (td_ : _ ∧ _))) | intro (ops_ : Array Oper) ri_ | intro (b_ : Bool) hb_ | (intro v_ h_; try (have o_ := FrzK.one h_)) | intro (v_ : Value) | intro (b_ : Nat) | (refine ⟨fun hc => ?_, fun hc => ?_⟩ <;> try (exfalso; omega)) | refine ⟨?_, ?_⟩ | intro _ | skip)
  | (refine Is_DQ ?_; first | (apply DQ_m rfl rfl rfl rfl; focus (intro wq_ Oq_ rq_ mm; (repeat (first | (refine G_nil ?_; exact X_done rfl (List.Sublist.refl _)) | refine V_op ?_)); done)) | (apply DQ_k rfl rfl rfl rfl; intro wq_ Oq_ rq_ mm) | (apply DQ_y rfl rfl rfl rfl; intro wq_ Oq_ rq_ mm)))
            all_goals
              refine ret_ rfl ResAll.nil fun w' h' => ?_
              have ek : k = (unD bs).1.length := by have := congrArg List.length a6; rw [List.length_take] at this; omega
              subst ek
              rw [a7]
              exact ⟨⟨_, rfl⟩, x, _, _, RebT.h _ _ (SubM.ent.st h' : St _ _ (.box rb (rdO (.slice none 0 0) e) :: J (unD bs).1.length x) w'), rfl⟩
          | ok p3 =>
            obtain ⟨v3, j3⟩ := p3
            haveI : Eqn (rdB (q.drop k2)) (.ok (v3, j3)) := ⟨h3⟩
            have hj3 := rdB_le h3
            have hr2 := a5.rest hk2.2
            have hql : (q.drop k2).length = q.length - k2 := List.length_drop
            haveI hrr : RdOld w0 O (cut (BitVec 8) (cut (BitVec 8) qv k2 q.length) j3 (q.drop k2).length) ((q.drop k2).drop j3) := hr2.rest hj3.2
            by_cases hc1 : (bL bf).length < u2.toNat
            · have ho : oneS (decide (k = 0)) (bL bf) q = .error 5 := by rw [oneS, h2]; simp only; rw [h3]; simp only; rw [if_pos (.inl hc1)]
              rw [ho] at a6 a7
              simp only [List.append_nil] at a6 a7
              haveI : No (min (u2.toNat : Int) (255 + 1) ≤ ((bL bf).length : Int)) := ⟨by omega⟩
              haveI : Fct (¬ (5 : Int) = 0) := ⟨by decide⟩
              repeat' (first
  | refine G_nilC ?_
  | refine G_nilN ?_
  | refine G_nilH ?_
  | (refine G_nil ?_; try clear ri_; try clear ops_)
  | (refine V_op ?_; first | exact True.intro | (intro v_ h_ w_ r_ t_; try (obtain ⟨ta_, tb_⟩ := (t_ : _ ∧ _)); try (obtain ⟨tb_, tc_⟩ := (tb_ : _ ∧ _)); try (obtain ⟨tc_, td_⟩ := (tc_ : _ ∧ _)); try (obtain ⟨td_, te_⟩ := (td_ : _ ∧ _))) | intro (ops_ : Array Oper) ri_ | intro (b_ : Bool) hb_ | (intro v_ h_; try (have o_ := FrzK.one h_)) | intro (v_ : Value) | intro (b_ : Nat) | (refine ⟨fun hc => ?_, fun hc => ?_⟩ <;> try (exfalso; omega)) | refine ⟨?_, ?_⟩ | intro _ | skip)
  | (refine Is_DQ ?_; first | (apply DQ_m rfl rfl rfl rfl; focus (intro wq_ Oq_ rq_ mm; (repeat (first | (refine G_nil ?_; exact X_done rfl (List.Sublist.refl _)) | refine V_op ?_)); done)) | (apply DQ_k rfl rfl rfl rfl; intro wq_ Oq_ rq_ mm) | (apply DQ_y rfl rfl rfl rfl; intro wq_ Oq_ rq_ mm)))
              refine GC_drawB rb (hi := Dr_60_6) ?_
              intro ops_ ri_
              repeat' (first
  | refine G_nilC ?_
  | refine G_nilN ?_
  | refine G_nilH ?_
  | (refine G_nil ?_; try clear ri_; try clear ops_)
  | (refine Is_DQ ?_; apply DQ_m rfl rfl rfl rfl; intro wq_ Oq_ rq_ mm)
  | (refine V_op ?_; first | exact True.intro | (intro v_ h_ w_ r_ t_; try (obtain ⟨ta_, tb_⟩ := (t_ : _ ∧ _)); try (obtain ⟨tb_, tc_⟩ := (tb_ : _ ∧ _)); try (obtain ⟨tc_, td_⟩ := (tc_ : _ ∧ _)); try (obtain ⟨td_, te_⟩ := (td_ : _ ∧ _))) | intro (ops_ : Array Oper) ri_ | intro (b_ : Bool) hb_ | (intro v_ h_; try (have o_ := FrzK.one h_)) | intro (v_ : Value) | intro (b_ : Nat) | (refine ⟨fun hc => ?_, fun hc => ?_⟩ <;> try (exfalso; omega)) | refine ⟨?_, ?_⟩ | intro _ | skip)
  | (refine Is_DQ ?_; first | (apply DQ_m rfl rfl rfl rfl; focus (intro wq_ Oq_ rq_ mm; (repeat (first | (refine G_nil ?_; exact X_done rfl (List.Sublist.refl _)) | refine V_op ?_)); done)) | (apply DQ_k rfl rfl rfl rfl; intro wq_ Oq_ rq_ mm) | (apply DQ_y rfl rfl rfl rfl; intro wq_ Oq_ rq_ mm)))
              all_goals
                refine ret_ rfl ResAll.nil fun w' h' => ?_
                have ek : k = (unD bs).1.length := by have := congrArg List.length a6; rw [List.length_take] at this; omega
                subst ek
                rw [a7]
                exact ⟨⟨_, rfl⟩, x, _, _, RebT.h _ _ (SubM.ent.st h' : St _ _ (.box rb (rdO (cut (BitVec 8) (cut (BitVec 8) qv k2 q.length) j3 (q.drop k2).length) 5) :: J (unD bs).1.length x) w'), rfl⟩
            · haveI : Eqn (min (u2.toNat : Int) (255 + 1)) (u2.toNat : Int) := ⟨by omega⟩
              haveI : Yes ((u2.toNat : Int) ≤ ((bL bf).length : Int)) := ⟨by omega⟩
              by_cases hc2 : 255 < u2.toNat + v3.toNat
              · have ho : oneS (decide (k = 0)) (bL bf) q = .error 5 := by rw [oneS, h2]; simp only; rw [h3]; simp only; rw [if_pos (.inr hc2)]
                rw [ho] at a6 a7
                simp only [List.append_nil] at a6 a7
                haveI : No ((u2.toNat : Int) + min (v3.toNat : Int) (255 + 1) ≤ 255) := ⟨by omega⟩
                haveI : Fct (¬ (5 : Int) = 0) := ⟨by decide⟩
                repeat' (first
  | refine G_nilC ?_
  | refine G_nilN ?_
  | refine G_nilH ?_
  | (refine G_nil ?_; try clear ri_; try clear ops_)
  | (refine V_op ?_; first | exact True.intro | (intro v_ h_ w_ r_ t_; try (obtain ⟨ta_, tb_⟩ := (t_ : _ ∧ _)); try (obtain ⟨tb_, tc_⟩ := (tb_ : _ ∧ _)); try (obtain ⟨tc_, td_⟩ := (tc_ : _ ∧ _)); try (obtain ⟨td_, te_⟩ := (td_ : _ ∧ _))) | intro (ops_ : Array Oper) ri_ | intro (b_ : Bool) hb_ | (intro v_ h_; try (have o_ := FrzK.one h_)) | intro (v_ : Value) | intro (b_ : Nat) | (refine ⟨fun hc => ?_, fun hc => ?_⟩ <;> try (exfalso; omega)) | refine ⟨?_, ?_⟩ | intro _ | skip)
  | (refine Is_DQ ?_; first | (apply DQ_m rfl rfl rfl rfl; focus (intro wq_ Oq_ rq_ mm; (repeat (first | (refine G_nil ?_; exact X_done rfl (List.Sublist.refl _)) | refine V_op ?_)); done)) | (apply DQ_k rfl rfl rfl rfl; intro wq_ Oq_ rq_ mm) | (apply DQ_y rfl rfl rfl rfl; intro wq_ Oq_ rq_ mm)))
                refine GC_drawB rb (hi := Dr_60_6) ?_
                intro ops_ ri_
                repeat' (first
  | refine G_nilC ?_
  | refine G_nilN ?_
  | refine G_nilH ?_
  | (refine G_nil ?_; try clear ri_; try clear ops_)
  | (refine Is_DQ ?_; apply DQ_m rfl rfl rfl rfl; intro wq_ Oq_ rq_ mm)
  | (refine V_op ?_; first | exact True.intro | (intro v_ h_ w_ r_ t_; try (obtain ⟨ta_, tb_⟩ := (t_ : _ ∧ _)); try (obtain ⟨tb_, tc_⟩ := (tb_ : _ ∧ _)); try (obtain ⟨tc_, td_⟩ := (tc_ : _ ∧ _)); try (obtain ⟨td_, te_⟩ := (td_ : _ ∧ _))) | intro (ops_ : Array Oper) ri_ | intro (b_ : Bool) hb_ | (intro v_ h_; try (have o_ := FrzK.one h_)) | intro (v_ : Value) | intro (b_ : Nat) | (refine ⟨fun hc => ?_, fun hc => ?_⟩ <;> try (exfalso; omega)) | refine ⟨?_, ?_⟩ | intro _ | skip)
  | (refine Is_DQ ?_; first | (apply DQ_m rfl rfl rfl rfl; focus (intro wq_ Oq_ rq_ mm; (repeat (first | (refine G_nil ?_; exact X_done rfl (List.Sublist.refl _)) | refine V_op ?_)); done)) | (apply DQ_k rfl rfl rfl rfl; intro wq_ Oq_ rq_ mm) | (apply DQ_y rfl rfl rfl rfl; intro wq_ Oq_ rq_ mm)))
                all_goals
                  refine ret_ rfl ResAll.nil fun w' h' => ?_
                  have ek : k = (unD bs).1.length := by have := congrArg List.length a6; rw [List.length_take] at this; omega
                  subst ek
                  rw [a7]
                  exact ⟨⟨_, rfl⟩, x, _, _, RebT.h _ _ (SubM.ent.st h' : St _ _ (.box rb (rdO (cut (BitVec 8) (cut (BitVec 8) qv k2 q.length) j3 (q.drop k2).length) 5) :: J (unD bs).1.length x) w'), rfl⟩
              · haveI : Eqn (min (v3.toNat : Int) (255 + 1)) (v3.toNat : Int) := ⟨by omega⟩
                haveI : Yes ((u2.toNat : Int) + (v3.toNat : Int) ≤ 255) := ⟨by omega⟩
                have hcn : ¬ ((bL bf).length < u2.toNat ∨ 255 < u2.toNat + v3.toNat) := by omega
                by_cases hc3 : ((q.drop k2).drop j3).length < v3.toNat
                · have ho : oneS (decide (k = 0)) (bL bf) q = .error 7 := by rw [oneS, h2]; simp only; rw [h3]; simp only; rw [if_neg hcn, if_pos hc3]
                  rw [ho] at a6 a7
                  simp only [List.append_nil] at a6 a7
                  haveI : No ((v3.toNat : Int) ≤ (((q.drop k2).drop j3).length : Int)) := ⟨by omega⟩
                  haveI : Fct (¬ (7 : Int) = 0) := ⟨by decide⟩
                  repeat' (first
  | refine G_nilC ?_
  | refine G_nilN ?_
  | refine G_nilH ?_
  | (refine G_nil ?_; try clear ri_; try clear ops_)
  | (refine V_op ?_; first | exact True.intro | (intro v_ h_ w_ r_ t_; try (obtain ⟨ta_, tb_⟩ := (t_ : _ ∧ _)); try (obtain ⟨tb_, tc_⟩ := (tb_ : _ ∧ _)); try (obtain ⟨tc_, td_⟩ := (tc_ : _ ∧ _)); try (obtain ⟨td_, te_⟩ := (td_ : _ ∧ _))) | intro (ops_ : Array Oper) ri_ | intro (b_ : Bool) hb_ | (intro v_ h_; try (have o_ := FrzK.one h_)) | intro (v_ : Value) | intro (b_ : Nat) | (refine ⟨fun hc => ?_, fun hc => ?_⟩ <;> try (exfalso; omega)) | refine ⟨?_, ?_⟩ | intro _ | skip)
  | (refine Is_DQ ?_; first | (apply DQ_m rfl rfl rfl rfl; focus (intro wq_ Oq_ rq_ mm; (repeat (first | (refine G_nil ?_; exact X_done rfl (List.Sublist.refl _)) | refine V_op ?_)); done)) | (apply DQ_k rfl rfl rfl rfl; intro wq_ Oq_ rq_ mm) | (apply DQ_y rfl rfl rfl rfl; intro wq_ Oq_ rq_ mm)))
                  refine GC_drawB rb (hi := Dr_60_6) ?_
                  intro ops_ ri_
                  repeat' (first
  | refine G_nilC ?_
  | refine G_nilN ?_
  | refine G_nilH ?_
  | (refine G_nil ?_; try clear ri_; try clear ops_)
  | (refine Is_DQ ?_; apply DQ_m rfl rfl rfl rfl; intro wq_ Oq_ rq_ mm)
  | (refine V_op ?_; first | exact True.intro | (intro v_ h_ w_ r_ t_; try (obtain ⟨ta_, tb_⟩ := (t_ : _ ∧ _)); try (obtain ⟨tb_, tc_⟩ := (tb_ : _ ∧ _)); try (obtain ⟨tc_, td_⟩ := (tc_ : _ ∧ _)); try (obtain ⟨td_, te_⟩ := (td_ : _ ∧ _))) | intro (ops_ : Array Oper) ri_ | intro (b_ : Bool) hb_ | (intro v_ h_; try (have o_ := FrzK.one h_)) | intro (v_ : Value) | intro (b_ : Nat) | (refine ⟨fun hc => ?_, fun hc => ?_⟩ <;> try (exfalso; omega)) | refine ⟨?_, ?_⟩ | intro _ | skip)
  | (refine Is_DQ ?_; first | (apply DQ_m rfl rfl rfl rfl; focus (intro wq_ Oq_ rq_ mm; (repeat (first | (refine G_nil ?_; exact X_done rfl (List.Sublist.refl _)) | refine V_op ?_)); done)) | (apply DQ_k rfl rfl rfl rfl; intro wq_ Oq_ rq_ mm) | (apply DQ_y rfl rfl rfl rfl; intro wq_ Oq_ rq_ mm)))
                  all_goals
                    refine ret_ rfl ResAll.nil fun w' h' => ?_
                    have ek : k = (unD bs).1.length := by have := congrArg List.length a6; rw [List.length_take] at this; omega
                    subst ek
                    rw [a7]
                    exact ⟨⟨_, rfl⟩, x, _, _, RebT.h _ _ (SubM.ent.st h' : St _ _ (.box rb (rdO (cut (BitVec 8) (cut (BitVec 8) qv k2 q.length) j3 (q.drop k2).length) 7) :: J (unD bs).1.length x) w'), rfl⟩
                · haveI : Yes ((v3.toNat : Int) ≤ (((q.drop k2).drop j3).length : Int)) := ⟨by omega⟩
                  obtain ⟨S, hS⟩ : ∃ S, (bL bf).take u2.toNat ++ List.take (v3.toNat - 0) (List.drop 0 ((q.drop k2).drop j3)) = S := ⟨_, rfl⟩
                  have hS2 : (bL bf).take u2.toNat ++ List.take v3.toNat ((q.drop k2).drop j3) = S := hS
                  haveI : AppN ((bL bf).take u2.toNat) (List.take (v3.toNat - 0) (List.drop 0 ((q.drop k2).drop j3))) S := ⟨hS⟩
                  have hSl : S.length ≤ 255 := by rw [← hS2, List.length_append, List.length_take, List.length_take]; omega
                  haveI : Fct (0 ≤ v3.toNat ∧ v3.toNat ≤ ((q.drop k2).drop j3).length) := ⟨by omega⟩
                  haveI : Fct (v3.toNat ≤ ((q.drop k2).drop j3).length ∧ ((q.drop k2).drop j3).length ≤ ((q.drop k2).drop j3).length) := ⟨by omega⟩
                  have hl1 : ((bL bf).take u2.toNat).length ≤ 255 := by rw [List.length_take]; omega
                  have hl2 : (List.take (v3.toNat - 0) (List.drop 0 ((q.drop k2).drop j3))).length ≤ 255 := by rw [List.length_take]; omega
                  by_cases hk0 : k = 0
                  · by_cases hsh : shB (bL bf) S = u2.toNat
                    · haveI : Yes ((shB (bL bf) S : Int) = (u2.toNat : Int)) := ⟨by omega⟩
                      have ho : oneS (decide (k = 0)) (bL bf) q = .ok (S, ((q.drop k2).drop j3).drop v3.toNat) := by rw [oneS, h2]; simp only; rw [h3]; simp only; rw [if_neg hcn, if_neg hc3, hS2, if_neg (by simp [hk0, hsh])]
                      rw [ho] at a6 a7
                      simp only at a6 a7
                      obtain ⟨hkl, hg, hnx⟩ := tk_step a2 a6
                      repeat' (first
  | refine G_nilC ?_
  | refine G_nilN ?_
  | refine G_nilH ?_
  | (refine G_nil ?_; try clear ri_; try clear ops_)
  | (refine V_op ?_; first | exact True.intro | (intro v_ h_ w_ r_ t_; try (obtain ⟨ta_, tb_⟩ := (t_ : _ ∧ _)); try (obtain ⟨tb_, tc_⟩ := (tb_ : _ ∧ _)); try (obtain ⟨tc_, td_⟩ := (tc_ : _ ∧ _)); try (obtain ⟨td_, te_⟩ := (td_ : _ ∧ _))) | intro (ops_ : Array Oper) ri_ | intro (b_ : Bool) hb_ | (intro v_ h_; try (have o_ := FrzK.one h_)) | intro (v_ : Value) | intro (b_ : Nat) | (refine ⟨fun hc => ?_, fun hc => ?_⟩ <;> try (exfalso; omega)) | refine ⟨?_, ?_⟩ | intro _ | skip)
  | (refine Is_DQ ?_; first | (apply DQ_m rfl rfl rfl rfl; focus (intro wq_ Oq_ rq_ mm; (repeat (first | (refine G_nil ?_; exact X_done rfl (List.Sublist.refl _)) | refine V_op ?_)); done)) | (apply DQ_k rfl rfl rfl rfl; intro wq_ Oq_ rq_ mm) | (apply DQ_y rfl rfl rfl rfl; intro wq_ Oq_ rq_ mm)))
                      refine GC_drawB rb (hi := Dr_60_6) ?_
                      intro ops_ ri_
                      repeat' (first
  | refine G_nilC ?_
  | refine G_nilN ?_
  | refine G_nilH ?_
  | (refine G_nil ?_; try clear ri_; try clear ops_)
  | (refine Is_DQ ?_; apply DQ_m rfl rfl rfl rfl; intro wq_ Oq_ rq_ mm)
  | (refine V_op ?_; first | exact True.intro | (intro v_ h_ w_ r_ t_; try (obtain ⟨ta_, tb_⟩ := (t_ : _ ∧ _)); try (obtain ⟨tb_, tc_⟩ := (tb_ : _ ∧ _)); try (obtain ⟨tc_, td_⟩ := (tc_ : _ ∧ _)); try (obtain ⟨td_, te_⟩ := (td_ : _ ∧ _))) | intro (ops_ : Array Oper) ri_ | intro (b_ : Bool) hb_ | (intro v_ h_; try (have o_ := FrzK.one h_)) | intro (v_ : Value) | intro (b_ : Nat) | (refine ⟨fun hc => ?_, fun hc => ?_⟩ <;> try (exfalso; omega)) | refine ⟨?_, ?_⟩ | intro _ | skip)
  | (refine Is_DQ ?_; first | (apply DQ_m rfl rfl rfl rfl; focus (intro wq_ Oq_ rq_ mm; (repeat (first | (refine G_nil ?_; exact X_done rfl (List.Sublist.refl _)) | refine V_op ?_)); done)) | (apply DQ_k rfl rfl rfl rfl; intro wq_ Oq_ rq_ mm) | (apply DQ_y rfl rfl rfl rfl; intro wq_ Oq_ rq_ mm)))
                      have hyk := hy w1 (foots (.box b1 (rdP rb) :: .box rb (rdO qv 0) :: J k x)) k hkl x (cut (BitVec 8) (cut (BitVec 8) (cut (BitVec 8) qv k2 q.length) j3 (q.drop k2).length) v3.toNat ((q.drop k2).drop j3).length)
                      rw [hg] at hyk
                      refine G_yieldX rfl rfl rfl hyk ?_
                      rintro _ x' w2 hr2 hT2 rfl
                      repeat' (first
  | refine G_nilC ?_
  | refine G_nilN ?_
  | refine G_nilH ?_
  | (refine G_nil ?_; try clear ri_; try clear ops_)
  | (refine V_op ?_; first | exact True.intro | (intro v_ h_ w_ r_ t_; try (obtain ⟨ta_, tb_⟩ := (t_ : _ ∧ _)); try (obtain ⟨tb_, tc_⟩ := (tb_ : _ ∧ _)); try (obtain ⟨tc_, td_⟩ := (tc_ : _ ∧ _)); try (obtain ⟨td_, te_⟩ := (td_ : _ ∧ _))) | intro (ops_ : Array Oper) ri_ | intro (b_ : Bool) hb_ | (intro v_ h_; try (have o_ := FrzK.one h_)) | intro (v_ : Value) | intro (b_ : Nat) | (refine ⟨fun hc => ?_, fun hc => ?_⟩ <;> try (exfalso; omega)) | refine ⟨?_, ?_⟩ | intro _ | skip)
  | (refine Is_DQ ?_; first | (apply DQ_m rfl rfl rfl rfl; focus (intro wq_ Oq_ rq_ mm; (repeat (first | (refine G_nil ?_; exact X_done rfl (List.Sublist.refl _)) | refine V_op ?_)); done)) | (apply DQ_k rfl rfl rfl rfl; intro wq_ Oq_ rq_ mm) | (apply DQ_y rfl rfl rfl rfl; intro wq_ Oq_ rq_ mm)))
                      exact At_roundD (k + 1, (cut (BitVec 8) (cut (BitVec 8) (cut (BitVec 8) qv k2 q.length) j3 (q.drop k2).length) v3.toNat ((q.drop k2).drop j3).length), ofL S, ((q.drop k2).drop j3).drop v3.toNat, x') (fun _ => ⟨by simp only; omega, by simp only; omega, by simp only [bL_ofL]; exact hSl, by simp only [List.length_drop]; omega, hrr.rest (by omega), by simp only [show u.toNat - (k + 1) = n by omega, show decide (k + 1 = 0) = false by simp, bL_ofL]; exact hnx, by simp only [show u.toNat - (k + 1) = n by omega, show decide (k + 1 = 0) = false by simp, bL_ofL]; exact a7⟩) (by simp only; omega) (by repeat (first | exact trivial | refine And.intro rfl ?_)) (by repeat (first | exact trivial | refine And.intro rfl ?_))
                    · haveI : No ((shB (bL bf) S : Int) = (u2.toNat : Int)) := ⟨by omega⟩
                      have ho : oneS (decide (k = 0)) (bL bf) q = .error 5 := by rw [oneS, h2]; simp only; rw [h3]; simp only; rw [if_neg hcn, if_neg hc3, hS2, if_pos (.inr hsh)]
                      rw [ho] at a6 a7
                      simp only [List.append_nil] at a6 a7
                      haveI : Fct (¬ (5 : Int) = 0) := ⟨by decide⟩
                      repeat' (first
  | refine G_nilC ?_
  | refine G_nilN ?_
  | refine G_nilH ?_
  | (refine G_nil ?_; try clear ri_; try clear ops_)
  | (refine V_op ?_; first | exact True.intro | (intro v_ h_ w_ r_ t_; try (obtain ⟨ta_, tb_⟩ := (t_ : _ ∧ _)); try (obtain ⟨tb_, tc_⟩ := (tb_ : _ ∧ _)); try (obtain ⟨tc_, td_⟩ := (tc_ : _ ∧ _)); try (obtain ⟨td_, te_⟩ := (td_ : _ ∧ _))) | intro (ops_ : Array Oper) ri_ | intro (b_ : Bool) hb_ | (intro v_ h_; try (have o_ := FrzK.one h_)) | intro (v_ : Value) | intro (b_ : Nat) | (refine ⟨fun hc => ?_, fun hc => ?_⟩ <;> try (exfalso; omega)) | refine ⟨?_, ?_⟩ | intro _ | skip)
  | (refine Is_DQ ?_; first | (apply DQ_m rfl rfl rfl rfl; focus (intro wq_ Oq_ rq_ mm; (repeat (first | (refine G_nil ?_; exact X_done rfl (List.Sublist.refl _)) | refine V_op ?_)); done)) | (apply DQ_k rfl rfl rfl rfl; intro wq_ Oq_ rq_ mm) | (apply DQ_y rfl rfl rfl rfl; intro wq_ Oq_ rq_ mm)))
                      refine GC_drawB rb (hi := Dr_60_6) ?_
                      intro ops_ ri_
                      repeat' (first
  | refine G_nilC ?_
  | refine G_nilN ?_
  | refine G_nilH ?_
  | (refine G_nil ?_; try clear ri_; try clear ops_)
  | (refine Is_DQ ?_; apply DQ_m rfl rfl rfl rfl; intro wq_ Oq_ rq_ mm)
  | (refine V_op ?_; first | exact True.intro | (intro v_ h_ w_ r_ t_; try (obtain ⟨ta_, tb_⟩ := (t_ : _ ∧ _)); try (obtain ⟨tb_, tc_⟩ := (tb_ : _ ∧ _)); try (obtain ⟨tc_, td_⟩ := (tc_ : _ ∧ _)); try (obtain ⟨td_, te_⟩ := (td_ : _ ∧ _))) | intro (ops_ : Array Oper) ri_ | intro (b_ : Bool) hb_ | (intro v_ h_; try (have o_ := FrzK.one h_)) | intro (v_ : Value) | intro (b_ : Nat) | (refine ⟨fun hc => ?_, fun hc => ?_⟩ <;> try (exfalso; omega)) | refine ⟨?_, ?_⟩ | intro _ | skip)
  | (refine Is_DQ ?_; first | (apply DQ_m rfl rfl rfl rfl; focus (intro wq_ Oq_ rq_ mm; (repeat (first | (refine G_nil ?_; exact X_done rfl (List.Sublist.refl _)) | refine V_op ?_)); done)) | (apply DQ_k rfl rfl rfl rfl; intro wq_ Oq_ rq_ mm) | (apply DQ_y rfl rfl rfl rfl; intro wq_ Oq_ rq_ mm)))
                      all_goals
                        refine ret_ rfl ResAll.nil fun w' h' => ?_
                        have ek : k = (unD bs).1.length := by have := congrArg List.length a6; rw [List.length_take] at this; omega
                        subst ek
                        rw [a7]
                        exact ⟨⟨_, rfl⟩, x, _, _, RebT.h _ _ (SubM.ent.st h' : St _ _ (.box rb (rdO (cut (BitVec 8) (cut (BitVec 8) (cut (BitVec 8) qv k2 q.length) j3 (q.drop k2).length) v3.toNat ((q.drop k2).drop j3).length) 5) :: J (unD bs).1.length x) w'), rfl⟩
                  · by_cases hlt : ltS (bL bf) S
                    · haveI : Yes (ltS (bL bf) S) := ⟨hlt⟩
                      by_cases hsh : shB (bL bf) S = u2.toNat
                      · haveI : Yes ((shB (bL bf) S : Int) = (u2.toNat : Int)) := ⟨by omega⟩
                        have ho : oneS (decide (k = 0)) (bL bf) q = .ok (S, ((q.drop k2).drop j3).drop v3.toNat) := by rw [oneS, h2]; simp only; rw [h3]; simp only; rw [if_neg hcn, if_neg hc3, hS2, if_neg (by simp [hk0, hlt, hsh])]
                        rw [ho] at a6 a7
                        simp only at a6 a7
                        obtain ⟨hkl, hg, hnx⟩ := tk_step a2 a6
                        repeat' (first
  | refine G_nilC ?_
  | refine G_nilN ?_
  | refine G_nilH ?_
  | (refine G_nil ?_; try clear ri_; try clear ops_)
  | (refine V_op ?_; first | exact True.intro | (intro v_ h_ w_ r_ t_; try (obtain ⟨ta_, tb_⟩ := (t_ : _ ∧ _)); try (obtain ⟨tb_, tc_⟩ := (tb_ : _ ∧ _)); try (obtain ⟨tc_, td_⟩ := (tc_ : _ ∧ _)); try (obtain ⟨td_, te_⟩ := (td_ : _ ∧ _))) | intro (ops_ : Array Oper) ri_ | intro (b_ : Bool) hb_ | (intro v_ h_; try (have o_ := FrzK.one h_)) | intro (v_ : Value) | intro (b_ : Nat) | (refine ⟨fun hc => ?_, fun hc => ?_⟩ <;> try (exfalso; omega)) | refine ⟨?_, ?_⟩ | intro _ | skip)
  | (refine Is_DQ ?_; first | (apply DQ_m rfl rfl rfl rfl; focus (intro wq_ Oq_ rq_ mm; (repeat (first | (refine G_nil ?_; exact X_done rfl (List.Sublist.refl _)) | refine V_op ?_)); done)) | (apply DQ_k rfl rfl rfl rfl; intro wq_ Oq_ rq_ mm) | (apply DQ_y rfl rfl rfl rfl; intro wq_ Oq_ rq_ mm)))
                        refine GC_drawB rb (hi := Dr_60_6) ?_
                        intro ops_ ri_
                        repeat' (first
  | refine G_nilC ?_
  | refine G_nilN ?_
  | refine G_nilH ?_
  | (refine G_nil ?_; try clear ri_; try clear ops_)
  | (refine Is_DQ ?_; apply DQ_m rfl rfl rfl rfl; intro wq_ Oq_ rq_ mm)
  | (refine V_op ?_; first | exact True.intro | (intro v_ h_ w_ r_ t_; try (obtain ⟨ta_, tb_⟩ := (t_ : _ ∧ _)); try (obtain ⟨tb_, tc_⟩ := (tb_ : _ ∧ _)); try (obtain ⟨tc_, td_⟩ := (tc_ : _ ∧ _)); try (obtain ⟨td_, te_⟩ := (td_ : _ ∧ _))) | intro (ops_ : Array Oper) ri_ | intro (b_ : Bool) hb_ | (intro v_ h_; try (have o_ := FrzK.one h_)) | intro (v_ : Value) | intro (b_ : Nat) | (refine ⟨fun hc => ?_, fun hc => ?_⟩ <;> try (exfalso; omega)) | refine ⟨?_, ?_⟩ | intro _ | skip)
  | (refine Is_DQ ?_; first | (apply DQ_m rfl rfl rfl rfl; focus (intro wq_ Oq_ rq_ mm; (repeat (first | (refine G_nil ?_; exact X_done rfl (List.Sublist.refl _)) | refine V_op ?_)); done)) | (apply DQ_k rfl rfl rfl rfl; intro wq_ Oq_ rq_ mm) | (apply DQ_y rfl rfl rfl rfl; intro wq_ Oq_ rq_ mm)))
                        have hyk := hy w1 (foots (.box b1 (rdP rb) :: .box rb (rdO qv 0) :: J k x)) k hkl x (cut (BitVec 8) (cut (BitVec 8) (cut (BitVec 8) qv k2 q.length) j3 (q.drop k2).length) v3.toNat ((q.drop k2).drop j3).length)
                        rw [hg] at hyk
                        refine G_yieldX rfl rfl rfl hyk ?_
                        rintro _ x' w2 hr2 hT2 rfl
                        repeat' (first
  | refine G_nilC ?_
  | refine G_nilN ?_
  | refine G_nilH ?_
  | (refine G_nil ?_; try clear ri_; try clear ops_)
  | (refine V_op ?_; first | exact True.intro | (intro v_ h_ w_ r_ t_; try (obtain ⟨ta_, tb_⟩ := (t_ : _ ∧ _)); try (obtain ⟨tb_, tc_⟩ := (tb_ : _ ∧ _)); try (obtain ⟨tc_, td_⟩ := (tc_ : _ ∧ _)); try (obtain ⟨td_, te_⟩ := (td_ : _ ∧ _))) | intro (ops_ : Array Oper) ri_ | intro (b_ : Bool) hb_ | (intro v_ h_; try (have o_ := FrzK.one h_)) | intro (v_ : Value) | intro (b_ : Nat) | (refine ⟨fun hc => ?_, fun hc => ?_⟩ <;> try (exfalso; omega)) | refine ⟨?_, ?_⟩ | intro _ | skip)
  | (refine Is_DQ ?_; first | (apply DQ_m rfl rfl rfl rfl; focus (intro wq_ Oq_ rq_ mm; (repeat (first | (refine G_nil ?_; exact X_done rfl (List.Sublist.refl _)) | refine V_op ?_)); done)) | (apply DQ_k rfl rfl rfl rfl; intro wq_ Oq_ rq_ mm) | (apply DQ_y rfl rfl rfl rfl; intro wq_ Oq_ rq_ mm)))
                        exact At_roundD (k + 1, (cut (BitVec 8) (cut (BitVec 8) (cut (BitVec 8) qv k2 q.length) j3 (q.drop k2).length) v3.toNat ((q.drop k2).drop j3).length), ofL S, ((q.drop k2).drop j3).drop v3.toNat, x') (fun _ => ⟨by simp only; omega, by simp only; omega, by simp only [bL_ofL]; exact hSl, by simp only [List.length_drop]; omega, hrr.rest (by omega), by simp only [show u.toNat - (k + 1) = n by omega, show decide (k + 1 = 0) = false by simp, bL_ofL]; exact hnx, by simp only [show u.toNat - (k + 1) = n by omega, show decide (k + 1 = 0) = false by simp, bL_ofL]; exact a7⟩) (by simp only; omega) (by repeat (first | exact trivial | refine And.intro rfl ?_)) (by repeat (first | exact trivial | refine And.intro rfl ?_))
                      · haveI : No ((shB (bL bf) S : Int) = (u2.toNat : Int)) := ⟨by omega⟩
                        have ho : oneS (decide (k = 0)) (bL bf) q = .error 5 := by rw [oneS, h2]; simp only; rw [h3]; simp only; rw [if_neg hcn, if_neg hc3, hS2, if_pos (.inr hsh)]
                        rw [ho] at a6 a7
                        simp only [List.append_nil] at a6 a7
                        haveI : Fct (¬ (5 : Int) = 0) := ⟨by decide⟩
                        repeat' (first
  | refine G_nilC ?_
  | refine G_nilN ?_
  | refine G_nilH ?_
  | (refine G_nil ?_; try clear ri_; try clear ops_)
  | (refine V_op ?_; first | exact True.intro | (intro v_ h_ w_ r_ t_; try (obtain ⟨ta_, tb_⟩ := (t_ : _ ∧ _)); try (obtain ⟨tb_, tc_⟩ := (tb_ : _ ∧ _)); try (obtain ⟨tc_, td_⟩ := (tc_ : _ ∧ _)); try (obtain ⟨td_, te_⟩ := (td_ : _ ∧ _))) | intro (ops_ : Array Oper) ri_ | intro (b_ : Bool) hb_ | (intro v_ h_; try (have o_ := FrzK.one h_)) | intro (v_ : Value) | intro (b_ : Nat) | (refine ⟨fun hc => ?_, fun hc => ?_⟩ <;> try (exfalso; omega)) | refine ⟨?_, ?_⟩ | intro _ | skip)
  | (refine Is_DQ ?_; first | (apply DQ_m rfl rfl rfl rfl; focus (intro wq_ Oq_ rq_ mm; (repeat (first | (refine G_nil ?_; exact X_done rfl (List.Sublist.refl _)) | refine V_op ?_)); done)) | (apply DQ_k rfl rfl rfl rfl; intro wq_ Oq_ rq_ mm) | (apply DQ_y rfl rfl rfl rfl; intro wq_ Oq_ rq_ mm)))
                        refine GC_drawB rb (hi := Dr_60_6) ?_
                        intro ops_ ri_
                        repeat' (first
  | refine G_nilC ?_
  | refine G_nilN ?_
  | refine G_nilH ?_
  | (refine G_nil ?_; try clear ri_; try clear ops_)
  | (refine Is_DQ ?_; apply DQ_m rfl rfl rfl rfl; intro wq_ Oq_ rq_ mm)
  | (refine V_op ?_; first | exact True.intro | (intro v_ h_ w_ r_ t_; try (obtain ⟨ta_, tb_⟩ := (t_ : _ ∧ _)); try (obtain ⟨tb_, tc_⟩ := (tb_ : _ ∧ _)); try (obtain ⟨tc_, td_⟩ := (tc_ : _ ∧ _)); try (obtain ⟨td_, te_⟩ := (td_ : _ ∧ _))) | intro (ops_ : Array Oper) ri_ | intro (b_ : Bool) hb_ | (intro v_ h_; try (have o_ := FrzK.one h_)) | intro (v_ : Value) | intro (b_ : Nat) | (refine ⟨fun hc => ?_, fun hc => ?_⟩ <;> try (exfalso; omega)) | refine ⟨?_, ?_⟩ | intro _ | skip)
  | (refine Is_DQ ?_; first | (apply DQ_m rfl rfl rfl rfl; focus (intro wq_ Oq_ rq_ mm; (repeat (first | (refine G_nil ?_; exact X_done rfl (List.Sublist.refl _)) | refine V_op ?_)); done)) | (apply DQ_k rfl rfl rfl rfl; intro wq_ Oq_ rq_ mm) | (apply DQ_y rfl rfl rfl rfl; intro wq_ Oq_ rq_ mm)))
                        all_goals
                          refine ret_ rfl ResAll.nil fun w' h' => ?_
                          have ek : k = (unD bs).1.length := by have := congrArg List.length a6; rw [List.length_take] at this; omega
                          subst ek
                          rw [a7]
                          exact ⟨⟨_, rfl⟩, x, _, _, RebT.h _ _ (SubM.ent.st h' : St _ _ (.box rb (rdO (cut (BitVec 8) (cut (BitVec 8) (cut (BitVec 8) qv k2 q.length) j3 (q.drop k2).length) v3.toNat ((q.drop k2).drop j3).length) 5) :: J (unD bs).1.length x) w'), rfl⟩
                    · haveI : No (ltS (bL bf) S) := ⟨hlt⟩
                      have ho : oneS (decide (k = 0)) (bL bf) q = .error 5 := by rw [oneS, h2]; simp only; rw [h3]; simp only; rw [if_neg hcn, if_neg hc3, hS2, if_pos (.inl ⟨by simp [hk0], hlt⟩)]
                      rw [ho] at a6 a7
                      simp only [List.append_nil] at a6 a7
                      haveI : Fct (¬ (5 : Int) = 0) := ⟨by decide⟩
                      repeat' (first
  | refine G_nilC ?_
  | refine G_nilN ?_
  | refine G_nilH ?_
  | (refine G_nil ?_; try clear ri_; try clear ops_)
  | (refine V_op ?_; first | exact True.intro | (intro v_ h_ w_ r_ t_; try (obtain ⟨ta_, tb_⟩ := (t_ : _ ∧ _)); try (obtain ⟨tb_, tc_⟩ := (tb_ : _ ∧ _)); try (obtain ⟨tc_, td_⟩ := (tc_ : _ ∧ _)); try (obtain ⟨td_, te_⟩ := (td_ : _ ∧ _))) | intro (ops_ : Array Oper) ri_ | intro (b_ : Bool) hb_ | (intro v_ h_; try (have o_ := FrzK.one h_)) | intro (v_ : Value) | intro (b_ : Nat) | (refine ⟨fun hc => ?_, fun hc => ?_⟩ <;> try (exfalso; omega)) | refine ⟨?_, ?_⟩ | intro _ | skip)
  | (refine Is_DQ ?_; first | (apply DQ_m rfl rfl rfl rfl; focus (intro wq_ Oq_ rq_ mm; (repeat (first | (refine G_nil ?_; exact X_done rfl (List.Sublist.refl _)) | refine V_op ?_)); done)) | (apply DQ_k rfl rfl rfl rfl; intro wq_ Oq_ rq_ mm) | (apply DQ_y rfl rfl rfl rfl; intro wq_ Oq_ rq_ mm)))
                      refine GC_drawB rb (hi := Dr_60_6) ?_
                      intro ops_ ri_
                      repeat' (first
  | refine G_nilC ?_
  | refine G_nilN ?_
  | refine G_nilH ?_
  | (refine G_nil ?_; try clear ri_; try clear ops_)
  | (refine Is_DQ ?_; apply DQ_m rfl rfl rfl rfl; intro wq_ Oq_ rq_ mm)
  | (refine V_op ?_; first | exact True.intro | (intro v_ h_ w_ r_ t_; try (obtain ⟨ta_, tb_⟩ := (t_ : _ ∧ _)); try (obtain ⟨tb_, tc_⟩ := (tb_ : _ ∧ _)); try (obtain ⟨tc_, td_⟩ := (tc_ : _ ∧ _)); try (obtain ⟨td_, te_⟩ := (td_ : _ ∧ _))) | intro (ops_ : Array Oper) ri_ | intro (b_ : Bool) hb_ | (intro v_ h_; try (have o_ := FrzK.one h_)) | intro (v_ : Value) | intro (b_ : Nat) | (refine ⟨fun hc => ?_, fun hc => ?_⟩ <;> try (exfalso; omega)) | refine ⟨?_, ?_⟩ | intro _ | skip)
  | (refine Is_DQ ?_; first | (apply DQ_m rfl rfl rfl rfl; focus (intro wq_ Oq_ rq_ mm; (repeat (first | (refine G_nil ?_; exact X_done rfl (List.Sublist.refl _)) | refine V_op ?_)); done)) | (apply DQ_k rfl rfl rfl rfl; intro wq_ Oq_ rq_ mm) | (apply DQ_y rfl rfl rfl rfl; intro wq_ Oq_ rq_ mm)))
                      all_goals
                        refine ret_ rfl ResAll.nil fun w' h' => ?_
                        have ek : k = (unD bs).1.length := by have := congrArg List.length a6; rw [List.length_take] at this; omega
                        subst ek
                        rw [a7]
                        exact ⟨⟨_, rfl⟩, x, _, _, RebT.h _ _ (SubM.ent.st h' : St _ _ (.box rb (rdO (cut (BitVec 8) (cut (BitVec 8) (cut (BitVec 8) qv k2 q.length) j3 (q.drop k2).length) v3.toNat ((q.drop k2).drop j3).length) 5) :: J (unD bs).1.length x) w'), rfl⟩
      · have hz : u.toNat - k = 0 := by omega
        rw [hz, unS] at a6 a7
        simp only [List.append_nil] at a6 a7
        repeat' (first
  | refine G_nilC ?_
  | refine G_nilN ?_
  | refine G_nilH ?_
  | (refine G_nil ?_; try clear ri_; try clear ops_)
  | (refine V_op ?_; first | exact True.intro | (intro v_ h_ w_ r_ t_; try (obtain ⟨ta_, tb_⟩ := (t_ : _ ∧ _)); try (obtain ⟨tb_, tc_⟩ := (tb_ : _ ∧ _)); try (obtain ⟨tc_, td_⟩ := (tc_ : _ ∧ _)); try (obtain ⟨td_, te_⟩ := (td_ : _ ∧ _))) | intro (ops_ : Array Oper) ri_ | intro (b_ : Bool) hb_ | (intro v_ h_; try (have o_ := FrzK.one h_)) | intro (v_ : Value) | intro (b_ : Nat) | (refine ⟨fun hc => ?_, fun hc => ?_⟩ <;> try (exfalso; omega)) | refine ⟨?_, ?_⟩ | intro _ | skip)
  | (refine Is_DQ ?_; first | (apply DQ_m rfl rfl rfl rfl; focus (intro wq_ Oq_ rq_ mm; (repeat (first | (refine G_nil ?_; exact X_done rfl (List.Sublist.refl _)) | refine V_op ?_)); done)) | (apply DQ_k rfl rfl rfl rfl; intro wq_ Oq_ rq_ mm) | (apply DQ_y rfl rfl rfl rfl; intro wq_ Oq_ rq_ mm)))
        refine ret_none_n rfl fun w' h' => ?_
        have ek : k = (unD bs).1.length := by have := congrArg List.length a6; rw [List.length_take] at this; omega
        subst ek
        rw [a7]
        exact ⟨⟨_, rfl⟩, x, qv, 0, RebT.h _ _ (SubM.ent.st h' : St _ _ (.box rb (rdO qv 0) :: J (unD bs).1.length x) w'), rfl, a5⟩
end Go.Proofs.Ytnncjfphdcfimaa
