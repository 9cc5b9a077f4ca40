/- Container: the whole file, read. -/
import Derived.Test.YtdngfkmigpnbnaaCnc
import Derived.Test.YtdngfkmigpnbnaaCnp
set_option linter.unusedVariables false
set_option linter.unusedSimpArgs false
set_option maxRecDepth 100000
set_option maxHeartbeats 4000000
namespace Go.Proofs.Ytdngfkmigpnbnaa
open Go.RowKit
attribute [local irreducible] G GC At wpL DR XPost CPost Cut GA GAR GAX GAt NxA GH GHR NxH

theorem GC_drawB {ro : Option Nat} {P : Program} {N : Nat} {D : List Deferred} {w0 : World} {O : List Nat} {s s1 : List (Nat × Value)} {m : List As} {Q : Exit → Act → World → Prop} {id d : Nat} {o : Op} {ty : TypeId} {p : String} {af : Array Edge} {g : Option (Nat × Bool)} {r : List Oper} {order cs ds : List Nat} {k : Nat} {m0 : List As} (b : Nat) {ob : Obj} [hx : MixedR P] [hi : DrawI p id d order cs k ds] [hb : BoxR b m ob m0]
    (h0 : ∀ (ops : Array Oper) [RegionR ops (⟨some d, o, ty, p, af, g⟩ :: r)], DQ ro P N D w0 O ops (⟨some d, o, ty, p, af, g⟩ :: r) cs [] k Q order s1 [.box b ob] m0)
    (hs : dropS ds s = s1 := by (try simp only [dropS, memN, slots, Nat.reduceBEq, Bool.or_false, Bool.or_true, Bool.false_or, Bool.true_or, cond_true, cond_false]); exact rfl) (hok : okE (⟨some d, o, ty, p, af, g⟩ :: r) order cs [] k N s1 = true := by kernel_rfl) :
    GC ro P N D w0 O (.region id (⟨some d, o, ty, p, af, g⟩ :: r).toArray true) s m Q :=
  GC_drawP (q0 := [.box b ob]) (hsp := ⟨hb.ent⟩) h0 hs hok
attribute [local irreducible] unpB rdB sumB ltB
theorem run_file (w0 : World) (O : List Nat) (m : List As) (b : Nat) (va : Value) (bs : List (BitVec 8)) [h : RdOld w0 O va bs] (hb : bs.length ≤ 900000) (r : Except Int (Fl × Nat)) (hr : fiB bs = r) (w : World) (hw : St w0 O (.box b (.cells #[va, va] 82) :: m) w) :
    Calls Try.prog 50 #[.pointer (some ⟨b, 0, none⟩)] w (fun y w' => match r with
      | .ok p => ∃ i : Value × OldV w0 O p.1.da × OldV w0 O (bs.drop p.2), y = .returned (.agg #[I p.1.k, i.1, i.2.1.v]) ∧ St w0 O (row i.1 3 p.1.id :: .box b (.cells #[va, i.2.2.v] 82) :: m) w'
      | .error e => y = .panicked (chn (trbl e)) ∧ St w0 O m w') := by
  have h0 := hr
  rw [fiB] at hr
  cases h1 : ltB bs with
  | error e =>
    rw [h1] at hr
    simp only at hr
    subst hr
    haveI : Eqn (ltB bs) (.error e) := ⟨h1⟩
    refine enterF (N := 60) (args := [.pointer (some ⟨b, 0, none⟩)]) Try.func50 rfl rfl rfl hw ?_
    repeat' (first
  | refine G_nilC ?_
  | refine G_nilN ?_
  | refine G_nilH ?_
  | (refine G_nil ?_; try clear ri_; try clear ops_)
  | (refine V_op ?_; first | exact True.intro | (intro v_ h_ w_ r_ t_; try (obtain ⟨ta_, tb_⟩ := (t_ : _ ∧ _)); try (obtain ⟨tb_, tc_⟩ := (tb_ : _ ∧ _)); try (obtain ⟨tc_, td_⟩ := (tc_ : _ ∧ _)); try (obtain ⟨td_, te_⟩ := (td_ : _ ∧ _))) | intro (ops_ : Array Oper) ri_ | intro (b_ : Bool) hb_ | (intro v_ h_; try (have o_ := FrzK.one h_)) | intro (v_ : Value) | intro (b_ : Nat) | (refine ⟨fun hc => ?_, fun hc => ?_⟩ <;> try (exfalso; omega)) | refine ⟨?_, ?_⟩ | intro _ | skip)
  | (refine Is_DQ ?_; first | (apply DQ_m rfl rfl rfl rfl; focus (intro wq_ Oq_ rq_ mm; (repeat (first | (refine G_nil ?_; exact X_done rfl (List.Sublist.refl _)) | refine V_op ?_)); done)) | (apply DQ_k rfl rfl rfl rfl; intro wq_ Oq_ rq_ mm) | (apply DQ_y rfl rfl rfl rfl; intro wq_ Oq_ rq_ mm)))
    refine panic_ fun w' h' => ?_
    exact ⟨rfl, SubM.ent.st h'⟩
  | ok _ =>
    rw [h1] at hr
    simp only at hr
    haveI : Eqn (ltB bs) (.ok ()) := ⟨h1⟩
    cases h2 : bs.drop 3 with
    | nil =>
      rw [h2] at hr
      simp only at hr
      subst hr
      haveI : Eqn (bs.drop 3) [] := ⟨h2⟩
      refine enterF (N := 60) (args := [.pointer (some ⟨b, 0, none⟩)]) Try.func50 rfl rfl rfl hw ?_
      repeat' (first
  | refine G_nilC ?_
  | refine G_nilN ?_
  | refine G_nilH ?_
  | (refine G_nil ?_; try clear ri_; try clear ops_)
  | (refine V_op ?_; first | exact True.intro | (intro v_ h_ w_ r_ t_; try (obtain ⟨ta_, tb_⟩ := (t_ : _ ∧ _)); try (obtain ⟨tb_, tc_⟩ := (tb_ : _ ∧ _)); try (obtain ⟨tc_, td_⟩ := (tc_ : _ ∧ _)); try (obtain ⟨td_, te_⟩ := (td_ : _ ∧ _))) | intro (ops_ : Array Oper) ri_ | intro (b_ : Bool) hb_ | (intro v_ h_; try (have o_ := FrzK.one h_)) | intro (v_ : Value) | intro (b_ : Nat) | (refine ⟨fun hc => ?_, fun hc => ?_⟩ <;> try (exfalso; omega)) | refine ⟨?_, ?_⟩ | intro _ | skip)
  | (refine Is_DQ ?_; first | (apply DQ_m rfl rfl rfl rfl; focus (intro wq_ Oq_ rq_ mm; (repeat (first | (refine G_nil ?_; exact X_done rfl (List.Sublist.refl _)) | refine V_op ?_)); done)) | (apply DQ_k rfl rfl rfl rfl; intro wq_ Oq_ rq_ mm) | (apply DQ_y rfl rfl rfl rfl; intro wq_ Oq_ rq_ mm)))
      refine panic_ fun w' h' => ?_
      exact ⟨rfl, SubM.ent.st h'⟩
    | cons x t =>
      rw [h2] at hr
      simp only at hr
      haveI : Eqn (bs.drop 3) (x :: t) := ⟨h2⟩
      by_cases hx : 1 ≤ x.toNat ∧ x.toNat ≤ 9
      rotate_left
      · rw [if_pos hx] at hr
        subst hr
        refine enterF (N := 60) (args := [.pointer (some ⟨b, 0, none⟩)]) Try.func50 rfl rfl rfl hw ?_
        repeat' (first
  | refine G_nilC ?_
  | refine G_nilN ?_
  | refine G_nilH ?_
  | (refine G_nil ?_; try clear ri_; try clear ops_)
  | (refine V_op ?_; first | exact True.intro | (intro v_ h_ w_ r_ t_; try (obtain ⟨ta_, tb_⟩ := (t_ : _ ∧ _)); try (obtain ⟨tb_, tc_⟩ := (tb_ : _ ∧ _)); try (obtain ⟨tc_, td_⟩ := (tc_ : _ ∧ _)); try (obtain ⟨td_, te_⟩ := (td_ : _ ∧ _))) | intro (ops_ : Array Oper) ri_ | intro (b_ : Bool) hb_ | (intro v_ h_; try (have o_ := FrzK.one h_)) | intro (v_ : Value) | intro (b_ : Nat) | (refine ⟨fun hc => ?_, fun hc => ?_⟩ <;> try (exfalso; omega)) | refine ⟨?_, ?_⟩ | intro _ | skip)
  | (refine Is_DQ ?_; first | (apply DQ_m rfl rfl rfl rfl; focus (intro wq_ Oq_ rq_ mm; (repeat (first | (refine G_nil ?_; exact X_done rfl (List.Sublist.refl _)) | refine V_op ?_)); done)) | (apply DQ_k rfl rfl rfl rfl; intro wq_ Oq_ rq_ mm) | (apply DQ_y rfl rfl rfl rfl; intro wq_ Oq_ rq_ mm)))
        refine panic_ fun w' h' => ?_
        exact ⟨rfl, SubM.ent.st h'⟩
      · rw [if_neg (by omega)] at hr
        cases h3 : unpB t with
        | error e =>
          rw [h3] at hr
          simp only at hr
          subst hr
          haveI : Eqn (unpB t) (.error e) := ⟨h3⟩
          refine enterF (N := 60) (args := [.pointer (some ⟨b, 0, none⟩)]) Try.func50 rfl rfl rfl hw ?_
          repeat' (first
  | refine G_nilC ?_
  | refine G_nilN ?_
  | refine G_nilH ?_
  | (refine G_nil ?_; try clear ri_; try clear ops_)
  | (refine V_op ?_; first | exact True.intro | (intro v_ h_ w_ r_ t_; try (obtain ⟨ta_, tb_⟩ := (t_ : _ ∧ _)); try (obtain ⟨tb_, tc_⟩ := (tb_ : _ ∧ _)); try (obtain ⟨tc_, td_⟩ := (tc_ : _ ∧ _)); try (obtain ⟨td_, te_⟩ := (td_ : _ ∧ _))) | intro (ops_ : Array Oper) ri_ | intro (b_ : Bool) hb_ | (intro v_ h_; try (have o_ := FrzK.one h_)) | intro (v_ : Value) | intro (b_ : Nat) | (refine ⟨fun hc => ?_, fun hc => ?_⟩ <;> try (exfalso; omega)) | refine ⟨?_, ?_⟩ | intro _ | skip)
  | (refine Is_DQ ?_; first | (apply DQ_m rfl rfl rfl rfl; focus (intro wq_ Oq_ rq_ mm; (repeat (first | (refine G_nil ?_; exact X_done rfl (List.Sublist.refl _)) | refine V_op ?_)); done)) | (apply DQ_k rfl rfl rfl rfl; intro wq_ Oq_ rq_ mm) | (apply DQ_y rfl rfl rfl rfl; intro wq_ Oq_ rq_ mm)))
          refine panic_ fun w' h' => ?_
          exact ⟨rfl, SubM.ent.st h'⟩
        | ok p3 =>
          obtain ⟨l, k⟩ := p3
          rw [h3] at hr
          simp only at hr
          haveI : Eqn (unpB t) (.ok (l, k)) := ⟨h3⟩
          by_cases hl : 40 < l.length
          · rw [if_pos hl] at hr
            subst hr
            refine enterF (N := 60) (args := [.pointer (some ⟨b, 0, none⟩)]) Try.func50 rfl rfl rfl hw ?_
            repeat' (first
  | refine G_nilC ?_
  | refine G_nilN ?_
  | refine G_nilH ?_
  | (refine G_nil ?_; try clear ri_; try clear ops_)
  | (refine V_op ?_; first | exact True.intro | (intro v_ h_ w_ r_ t_; try (obtain ⟨ta_, tb_⟩ := (t_ : _ ∧ _)); try (obtain ⟨tb_, tc_⟩ := (tb_ : _ ∧ _)); try (obtain ⟨tc_, td_⟩ := (tc_ : _ ∧ _)); try (obtain ⟨td_, te_⟩ := (td_ : _ ∧ _))) | intro (ops_ : Array Oper) ri_ | intro (b_ : Bool) hb_ | (intro v_ h_; try (have o_ := FrzK.one h_)) | intro (v_ : Value) | intro (b_ : Nat) | (refine ⟨fun hc => ?_, fun hc => ?_⟩ <;> try (exfalso; omega)) | refine ⟨?_, ?_⟩ | intro _ | skip)
  | (refine Is_DQ ?_; first | (apply DQ_m rfl rfl rfl rfl; focus (intro wq_ Oq_ rq_ mm; (repeat (first | (refine G_nil ?_; exact X_done rfl (List.Sublist.refl _)) | refine V_op ?_)); done)) | (apply DQ_k rfl rfl rfl rfl; intro wq_ Oq_ rq_ mm) | (apply DQ_y rfl rfl rfl rfl; intro wq_ Oq_ rq_ mm)))
            refine panic_ fun w' h' => ?_
            exact ⟨rfl, SubM.ent.st h'⟩
          · rw [if_neg hl] at hr
            cases h4 : rdB (t.drop k) with
            | error e =>
              rw [h4] at hr
              simp only at hr
              subst hr
              haveI : Eqn (rdB (t.drop k)) (.error e) := ⟨h4⟩
              refine enterF (N := 60) (args := [.pointer (some ⟨b, 0, none⟩)]) Try.func50 rfl rfl rfl hw ?_
              repeat' (first
  | refine G_nilC ?_
  | refine G_nilN ?_
  | refine G_nilH ?_
  | (refine G_nil ?_; try clear ri_; try clear ops_)
  | (refine V_op ?_; first | exact True.intro | (intro v_ h_ w_ r_ t_; try (obtain ⟨ta_, tb_⟩ := (t_ : _ ∧ _)); try (obtain ⟨tb_, tc_⟩ := (tb_ : _ ∧ _)); try (obtain ⟨tc_, td_⟩ := (tc_ : _ ∧ _)); try (obtain ⟨td_, te_⟩ := (td_ : _ ∧ _))) | intro (ops_ : Array Oper) ri_ | intro (b_ : Bool) hb_ | (intro v_ h_; try (have o_ := FrzK.one h_)) | intro (v_ : Value) | intro (b_ : Nat) | (refine ⟨fun hc => ?_, fun hc => ?_⟩ <;> try (exfalso; omega)) | refine ⟨?_, ?_⟩ | intro _ | skip)
  | (refine Is_DQ ?_; first | (apply DQ_m rfl rfl rfl rfl; focus (intro wq_ Oq_ rq_ mm; (repeat (first | (refine G_nil ?_; exact X_done rfl (List.Sublist.refl _)) | refine V_op ?_)); done)) | (apply DQ_k rfl rfl rfl rfl; intro wq_ Oq_ rq_ mm) | (apply DQ_y rfl rfl rfl rfl; intro wq_ Oq_ rq_ mm)))
              refine panic_ fun w' h' => ?_
              exact ⟨rfl, SubM.ent.st h'⟩
            | ok p4 =>
              obtain ⟨u, j⟩ := p4
              rw [h4] at hr
              simp only at hr
              haveI : Eqn (rdB (t.drop k)) (.ok (u, j)) := ⟨h4⟩
              by_cases hu : 65536 < u.toNat
              · rw [if_pos hu] at hr
                subst hr
                refine enterF (N := 60) (args := [.pointer (some ⟨b, 0, none⟩)]) Try.func50 rfl rfl rfl hw ?_
                repeat' (first
  | refine G_nilC ?_
  | refine G_nilN ?_
  | refine G_nilH ?_
  | (refine G_nil ?_; try clear ri_; try clear ops_)
  | (refine V_op ?_; first | exact True.intro | (intro v_ h_ w_ r_ t_; try (obtain ⟨ta_, tb_⟩ := (t_ : _ ∧ _)); try (obtain ⟨tb_, tc_⟩ := (tb_ : _ ∧ _)); try (obtain ⟨tc_, td_⟩ := (tc_ : _ ∧ _)); try (obtain ⟨td_, te_⟩ := (td_ : _ ∧ _))) | intro (ops_ : Array Oper) ri_ | intro (b_ : Bool) hb_ | (intro v_ h_; try (have o_ := FrzK.one h_)) | intro (v_ : Value) | intro (b_ : Nat) | (refine ⟨fun hc => ?_, fun hc => ?_⟩ <;> try (exfalso; omega)) | refine ⟨?_, ?_⟩ | intro _ | skip)
  | (refine Is_DQ ?_; first | (apply DQ_m rfl rfl rfl rfl; focus (intro wq_ Oq_ rq_ mm; (repeat (first | (refine G_nil ?_; exact X_done rfl (List.Sublist.refl _)) | refine V_op ?_)); done)) | (apply DQ_k rfl rfl rfl rfl; intro wq_ Oq_ rq_ mm) | (apply DQ_y rfl rfl rfl rfl; intro wq_ Oq_ rq_ mm)))
                refine panic_ fun w' h' => ?_
                exact ⟨rfl, SubM.ent.st h'⟩
              · rw [if_neg hu, fi2] at hr
                have hk := (unp_off h3).1
                have hj := (rdB_le h4).2
                have ht : t = bs.drop 4 := by rw [show 4 = 3 + 1 from rfl, ← List.drop_drop, h2]; rfl
                have hbl := congrArg List.length h2
                have hq : (t.drop k).drop j = bs.drop (4 + (k + j)) := by rw [ht, List.drop_drop, List.drop_drop]
                simp only [List.length_drop, List.length_cons] at hbl hj
                have hql : ((t.drop k).drop j).length = t.length - k - j := by simp only [List.length_drop]
                have hdl : (((t.drop k).drop j).drop u.toNat).length = ((t.drop k).drop j).length - u.toNat := List.length_drop
                by_cases hn : ((t.drop k).drop j).length < u.toNat + 8
                · rw [if_pos hn] at hr
                  subst hr
                  refine enterF (N := 60) (args := [.pointer (some ⟨b, 0, none⟩)]) Try.func50 rfl rfl rfl hw ?_
                  repeat' (first
  | refine G_nilC ?_
  | refine G_nilN ?_
  | refine G_nilH ?_
  | (refine G_nil ?_; try clear ri_; try clear ops_)
  | (refine V_op ?_; first | exact True.intro | (intro v_ h_ w_ r_ t_; try (obtain ⟨ta_, tb_⟩ := (t_ : _ ∧ _)); try (obtain ⟨tb_, tc_⟩ := (tb_ : _ ∧ _)); try (obtain ⟨tc_, td_⟩ := (tc_ : _ ∧ _)); try (obtain ⟨td_, te_⟩ := (td_ : _ ∧ _))) | intro (ops_ : Array Oper) ri_ | intro (b_ : Bool) hb_ | (intro v_ h_; try (have o_ := FrzK.one h_)) | intro (v_ : Value) | intro (b_ : Nat) | (refine ⟨fun hc => ?_, fun hc => ?_⟩ <;> try (exfalso; omega)) | refine ⟨?_, ?_⟩ | intro _ | skip)
  | (refine Is_DQ ?_; first | (apply DQ_m rfl rfl rfl rfl; focus (intro wq_ Oq_ rq_ mm; (repeat (first | (refine G_nil ?_; exact X_done rfl (List.Sublist.refl _)) | refine V_op ?_)); done)) | (apply DQ_k rfl rfl rfl rfl; intro wq_ Oq_ rq_ mm) | (apply DQ_y rfl rfl rfl rfl; intro wq_ Oq_ rq_ mm)))
                  refine panic_ fun w' h' => ?_
                  exact ⟨rfl, SubM.ent.st h'⟩
                · rw [if_neg hn] at hr
                  have hhl : ((bs.drop 0).take (bs.length - (((t.drop k).drop j).drop u.toNat).length - 0)).length ≤ bs.length := by
                    simp only [List.length_take, List.length_drop]; omega
                  have hsl : ((bs.drop 0).take (bs.length - (((t.drop k).drop j).drop u.toNat).length - 0) ++ sumB ((bs.drop 0).take (bs.length - (((t.drop k).drop j).drop u.toNat).length - 0))).length = ((bs.drop 0).take (bs.length - (((t.drop k).drop j).drop u.toNat).length - 0)).length + 8 := by rw [List.length_append, sumB_length]
                  haveI : Fct (((bs.drop 0).take (bs.length - (((t.drop k).drop j).drop u.toNat).length - 0)).length ≤ ((bs.drop 0).take (bs.length - (((t.drop k).drop j).drop u.toNat).length - 0) ++ sumB ((bs.drop 0).take (bs.length - (((t.drop k).drop j).drop u.toNat).length - 0))).length ∧ ((bs.drop 0).take (bs.length - (((t.drop k).drop j).drop u.toNat).length - 0) ++ sumB ((bs.drop 0).take (bs.length - (((t.drop k).drop j).drop u.toNat).length - 0))).length ≤ ((bs.drop 0).take (bs.length - (((t.drop k).drop j).drop u.toNat).length - 0) ++ sumB ((bs.drop 0).take (bs.length - (((t.drop k).drop j).drop u.toNat).length - 0))).length) := ⟨by omega⟩
                  have hA : (bs.drop 0).take (bs.length - (((t.drop k).drop j).drop u.toNat).length - 0) = bs.take (bs.length - (((t.drop k).drop j).length - u.toNat)) := by rw [hdl]; simp only [List.drop_zero, Nat.sub_zero]
                  have hcut : (((bs.drop 0).take (bs.length - (((t.drop k).drop j).drop u.toNat).length - 0) ++ sumB ((bs.drop 0).take (bs.length - (((t.drop k).drop j).drop u.toNat).length - 0))).drop ((bs.drop 0).take (bs.length - (((t.drop k).drop j).drop u.toNat).length - 0)).length).take (((bs.drop 0).take (bs.length - (((t.drop k).drop j).drop u.toNat).length - 0) ++ sumB ((bs.drop 0).take (bs.length - (((t.drop k).drop j).drop u.toNat).length - 0))).length - ((bs.drop 0).take (bs.length - (((t.drop k).drop j).drop u.toNat).length - 0)).length) = sumB ((bs.drop 0).take (bs.length - (((t.drop k).drop j).drop u.toNat).length - 0)) := by
                    rw [hsl, List.drop_left, List.take_of_length_le (by rw [sumB_length]; omega)]
                  have hre : (((t.drop k).drop j).drop u.toNat).drop 8 = bs.drop (bs.length - (((t.drop k).drop j).length - u.toNat) + 8) := by
                    rw [hq, List.drop_drop, List.drop_drop, List.length_drop]
                    congr 1
                    omega
                  refine enterF (N := 60) (args := [.pointer (some ⟨b, 0, none⟩)]) Try.func50 rfl rfl rfl hw ?_
                  repeat' (first
  | refine G_nilC ?_
  | refine G_nilN ?_
  | refine G_nilH ?_
  | (refine G_nil ?_; try clear ri_; try clear ops_)
  | (refine V_op ?_; first | exact True.intro | (intro v_ h_ w_ r_ t_; try (obtain ⟨ta_, tb_⟩ := (t_ : _ ∧ _)); try (obtain ⟨tb_, tc_⟩ := (tb_ : _ ∧ _)); try (obtain ⟨tc_, td_⟩ := (tc_ : _ ∧ _)); try (obtain ⟨td_, te_⟩ := (td_ : _ ∧ _))) | intro (ops_ : Array Oper) ri_ | intro (b_ : Bool) hb_ | (intro v_ h_; try (have o_ := FrzK.one h_)) | intro (v_ : Value) | intro (b_ : Nat) | (refine ⟨fun hc => ?_, fun hc => ?_⟩ <;> try (exfalso; omega)) | refine ⟨?_, ?_⟩ | intro _ | skip)
  | (refine Is_DQ ?_; first | (apply DQ_m rfl rfl rfl rfl; focus (intro wq_ Oq_ rq_ mm; (repeat (first | (refine G_nil ?_; exact X_done rfl (List.Sublist.refl _)) | refine V_op ?_)); done)) | (apply DQ_k rfl rfl rfl rfl; intro wq_ Oq_ rq_ mm) | (apply DQ_y rfl rfl rfl rfl; intro wq_ Oq_ rq_ mm)))
                  refine GC_drawB b (hi := Dr_50_9) ?_
                  intro ops_ ri_
                  repeat' (first
  | refine G_nilC ?_
  | refine G_nilN ?_
  | refine G_nilH ?_
  | (refine G_nil ?_; try clear ri_; try clear ops_)
  | (refine Is_DQ ?_; apply DQ_m rfl rfl rfl rfl; intro wq_ Oq_ rq_ mm)
  | (refine V_op ?_; first | exact True.intro | (intro v_ h_ w_ r_ t_; try (obtain ⟨ta_, tb_⟩ := (t_ : _ ∧ _)); try (obtain ⟨tb_, tc_⟩ := (tb_ : _ ∧ _)); try (obtain ⟨tc_, td_⟩ := (tc_ : _ ∧ _)); try (obtain ⟨td_, te_⟩ := (td_ : _ ∧ _))) | intro (ops_ : Array Oper) ri_ | intro (b_ : Bool) hb_ | (intro v_ h_; try (have o_ := FrzK.one h_)) | intro (v_ : Value) | intro (b_ : Nat) | (refine ⟨fun hc => ?_, fun hc => ?_⟩ <;> try (exfalso; omega)) | refine ⟨?_, ?_⟩ | intro _ | skip)
  | (refine Is_DQ ?_; first | (apply DQ_m rfl rfl rfl rfl; focus (intro wq_ Oq_ rq_ mm; (repeat (first | (refine G_nil ?_; exact X_done rfl (List.Sublist.refl _)) | refine V_op ?_)); done)) | (apply DQ_k rfl rfl rfl rfl; intro wq_ Oq_ rq_ mm) | (apply DQ_y rfl rfl rfl rfl; intro wq_ Oq_ rq_ mm)))
                  · rw [hcut, hA] at hc
                    rw [if_neg hc] at hr
                    subst hr
                    refine panic_ fun w' h' => ?_
                    exact ⟨rfl, SubM.ent.st h'⟩
                  · rw [hcut, hA] at hc
                    rw [if_pos (Decidable.not_not.1 hc)] at hr
                    subst hr
                    refine ret_ rfl (by repeat (first | exact ResAll.nil | (apply ResAll.cons; first | exact .tmp rfl | exact .cell rfl rfl | exact .one rfl))) fun w' h' => ?_
                    exact ⟨(_, _, ⟨v_.2.v, by rw [← hre]; exact v_.2.h⟩), rfl, SubM.ent.st h'⟩
end Go.Proofs.Ytdngfkmigpnbnaa
