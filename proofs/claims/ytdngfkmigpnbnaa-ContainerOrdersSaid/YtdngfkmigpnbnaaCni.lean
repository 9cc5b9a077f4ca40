/- Container: the reference's reading of bytes. -/
import Derived.Test.YtdngfkmigpnbnaaCnh
set_option linter.unusedVariables false
set_option linter.unusedSimpArgs false
set_option maxRecDepth 100000
set_option maxHeartbeats 4000000
namespace Go.Proofs.Ytdngfkmigpnbnaa
open Go.RowKit
attribute [local irreducible] G GC At wpL DR XPost CPost Cut GA GAR GAX GAt NxA GH GHR NxH
attribute [local irreducible] unpB rdB sumB packB seB

instance (priority := high) rdOld_cutK {w0 : World} {O : List Nat} {v : Value} {bs t : List (BitVec 8)} {k : Nat} [h : RdOld w0 O v bs] [hb : Fct (k ≤ bs.length ∧ bs.length ≤ bs.length)] [he : Eqn (bs.drop k) t] : RdOld w0 O (cut (BitVec 8) v k bs.length) t := ⟨by
  have := (h.rest hb.out.1).old
  rw [he.eq] at this
  exact this⟩
theorem ref_First (w0 : World) (O : List Nat) (m : List As) (v : Value) (bs : List (BitVec 8)) [h : RdOld w0 O v bs] (hb : bs.length ≤ 900000) (r : Except Int (Fl × Nat)) (hr : fiB bs = r) (w : World) (hw : St w0 O m w) :
    Calls Try.prog 29 #[v] w (fun y w' => match r with
      | .ok p => RetD w0 O m (fun _ : V1 × V1 × V1 => True) (fun i => .agg #[I p.1.k, i.1.v, i.2.1.v, i.2.2.v, I 0]) (fun i w O => RdOld w O i.1.v p.1.id ∧ RdOld w O i.2.1.v p.1.da ∧ RdOld w O i.2.2.v (bs.drop p.2)) y w'
      | .error e => y = .returned (.agg #[I 0, .slice none 0 0, .slice none 0 0, .slice none 0 0, I e]) ∧ St w0 O m w') := by
  haveI : One v := h.isOne
  have h0 := hr
  refine enterF (N := 117) (args := [v]) Try.func29 rfl rfl rfl hw ?_
  repeat' (first
  | refine G_nilC ?_
  | refine G_nilN ?_
  | refine G_nilH ?_
  | (refine G_nil ?_; try clear ri_; try clear ops_)
  | (refine V_op ?_; first | exact True.intro | (intro v_ h_ w_ r_ t_; try (obtain ⟨ta_, tb_⟩ := (t_ : _ ∧ _)); try (obtain ⟨tb_, tc_⟩ := (tb_ : _ ∧ _)); try (obtain ⟨tc_, td_⟩ := (tc_ : _ ∧ _)); try (obtain ⟨td_, te_⟩ := (td_ : _ ∧ _))) | intro (ops_ : Array Oper) ri_ | intro (b_ : Bool) hb_ | (intro v_ h_; try (have o_ := FrzK.one h_)) | intro (v_ : Value) | intro (b_ : Nat) | (refine ⟨fun hc => ?_, fun hc => ?_⟩ <;> try (exfalso; omega)) | refine ⟨?_, ?_⟩ | intro _ | skip)
  | (refine Is_DQ ?_; first | (apply DQ_m rfl rfl rfl rfl; focus (intro wq_ Oq_ rq_ mm; (repeat (first | (refine G_nil ?_; exact X_done rfl (List.Sublist.refl _)) | refine V_op ?_)); done)) | (apply DQ_k rfl rfl rfl rfl; intro wq_ Oq_ rq_ mm) | (apply DQ_y rfl rfl rfl rfl; intro wq_ Oq_ rq_ mm)))
  refine GC_loopS (X := Nat) (fun k => k ≤ 3 ∧ k ≤ bs.length ∧ ltGo (ltL.drop k) (bs.drop k) = ltB bs) (fun k s => (4, I k) :: s) (fun _ q => q) (fun k => 3 - k) 0 ⟨by simp, by simp, rfl⟩ (by repeat (first | exact trivial | refine And.intro rfl ?_)) ?_
  rintro k ⟨hk, hkb, hg⟩
  by_cases hk3 : k < 3
  · by_cases hkl : k < bs.length
    · have hd := List.drop_eq_getElem_cons hkl
      rw [hd] at hg
      have hkk : k = 0 ∨ k = 1 ∨ k = 2 := by omega
      have hl0 : ([67#8, 72#8, 77#8][0]'(by decide)).toNat = 67 := rfl
      have hl1 : ([67#8, 72#8, 77#8][1]'(by decide)).toNat = 72 := rfl
      have hl2 : ([67#8, 72#8, 77#8][2]'(by decide)).toNat = 77 := rfl
      rcases hkk with rfl | rfl | rfl
      · by_cases hx : bs[0] = 67#8
        · have hxn : bs[0].toNat = 67 := by rw [hx]; rfl
          have hg2 : ltGo (ltL.drop 1) (bs.drop 1) = ltB bs := by rw [← hg]; simp [ltL, ltGo, hx]
          repeat' (first
  | refine G_nilC ?_
  | refine G_nilN ?_
  | refine G_nilH ?_
  | (refine G_nil ?_; try clear ri_; try clear ops_)
  | (refine V_op ?_; first | exact True.intro | (intro v_ h_ w_ r_ t_; try (obtain ⟨ta_, tb_⟩ := (t_ : _ ∧ _)); try (obtain ⟨tb_, tc_⟩ := (tb_ : _ ∧ _)); try (obtain ⟨tc_, td_⟩ := (tc_ : _ ∧ _)); try (obtain ⟨td_, te_⟩ := (td_ : _ ∧ _))) | intro (ops_ : Array Oper) ri_ | intro (b_ : Bool) hb_ | (intro v_ h_; try (have o_ := FrzK.one h_)) | intro (v_ : Value) | intro (b_ : Nat) | (refine ⟨fun hc => ?_, fun hc => ?_⟩ <;> try (exfalso; omega)) | refine ⟨?_, ?_⟩ | intro _ | skip)
  | (refine Is_DQ ?_; first | (apply DQ_m rfl rfl rfl rfl; focus (intro wq_ Oq_ rq_ mm; (repeat (first | (refine G_nil ?_; exact X_done rfl (List.Sublist.refl _)) | refine V_op ?_)); done)) | (apply DQ_k rfl rfl rfl rfl; intro wq_ Oq_ rq_ mm) | (apply DQ_y rfl rfl rfl rfl; intro wq_ Oq_ rq_ mm)))
          exact At_roundS 1 ⟨by omega, by omega, hg2⟩ (by omega) (by repeat (first | exact trivial | refine And.intro rfl ?_)) (by repeat (first | exact trivial | refine And.intro rfl ?_))
        · have hxn : ¬ bs[0].toNat = 67 := fun h => hx (BitVec.eq_of_toNat_eq h)
          have hg8 : ltB bs = .error 8 := by
            rw [← hg]
            show (if bs[0] = 67#8 then ltGo (ltL.drop 1) (bs.drop 1) else .error 8) = .error 8
            rw [if_neg hx]
          have hr8 : fiB bs = .error 8 := by rw [fiB, hg8]
          rw [h0] at hr8
          subst hr8
          repeat' (first
  | refine G_nilC ?_
  | refine G_nilN ?_
  | refine G_nilH ?_
  | (refine G_nil ?_; try clear ri_; try clear ops_)
  | (refine V_op ?_; first | exact True.intro | (intro v_ h_ w_ r_ t_; try (obtain ⟨ta_, tb_⟩ := (t_ : _ ∧ _)); try (obtain ⟨tb_, tc_⟩ := (tb_ : _ ∧ _)); try (obtain ⟨tc_, td_⟩ := (tc_ : _ ∧ _)); try (obtain ⟨td_, te_⟩ := (td_ : _ ∧ _))) | intro (ops_ : Array Oper) ri_ | intro (b_ : Bool) hb_ | (intro v_ h_; try (have o_ := FrzK.one h_)) | intro (v_ : Value) | intro (b_ : Nat) | (refine ⟨fun hc => ?_, fun hc => ?_⟩ <;> try (exfalso; omega)) | refine ⟨?_, ?_⟩ | intro _ | skip)
  | (refine Is_DQ ?_; first | (apply DQ_m rfl rfl rfl rfl; focus (intro wq_ Oq_ rq_ mm; (repeat (first | (refine G_nil ?_; exact X_done rfl (List.Sublist.refl _)) | refine V_op ?_)); done)) | (apply DQ_k rfl rfl rfl rfl; intro wq_ Oq_ rq_ mm) | (apply DQ_y rfl rfl rfl rfl; intro wq_ Oq_ rq_ mm)))
          refine ret_ rfl (by repeat (first | exact ResAll.nil | (apply ResAll.cons; first | exact .tmp rfl | exact .cell rfl rfl | exact .one rfl))) fun w' h' => ?_
          exact ⟨rfl, SubM.ent.st h'⟩
      · by_cases hx : bs[1] = 72#8
        · have hxn : bs[1].toNat = 72 := by rw [hx]; rfl
          have hg2 : ltGo (ltL.drop 2) (bs.drop 2) = ltB bs := by rw [← hg]; simp [ltL, ltGo, hx]
          repeat' (first
  | refine G_nilC ?_
  | refine G_nilN ?_
  | refine G_nilH ?_
  | (refine G_nil ?_; try clear ri_; try clear ops_)
  | (refine V_op ?_; first | exact True.intro | (intro v_ h_ w_ r_ t_; try (obtain ⟨ta_, tb_⟩ := (t_ : _ ∧ _)); try (obtain ⟨tb_, tc_⟩ := (tb_ : _ ∧ _)); try (obtain ⟨tc_, td_⟩ := (tc_ : _ ∧ _)); try (obtain ⟨td_, te_⟩ := (td_ : _ ∧ _))) | intro (ops_ : Array Oper) ri_ | intro (b_ : Bool) hb_ | (intro v_ h_; try (have o_ := FrzK.one h_)) | intro (v_ : Value) | intro (b_ : Nat) | (refine ⟨fun hc => ?_, fun hc => ?_⟩ <;> try (exfalso; omega)) | refine ⟨?_, ?_⟩ | intro _ | skip)
  | (refine Is_DQ ?_; first | (apply DQ_m rfl rfl rfl rfl; focus (intro wq_ Oq_ rq_ mm; (repeat (first | (refine G_nil ?_; exact X_done rfl (List.Sublist.refl _)) | refine V_op ?_)); done)) | (apply DQ_k rfl rfl rfl rfl; intro wq_ Oq_ rq_ mm) | (apply DQ_y rfl rfl rfl rfl; intro wq_ Oq_ rq_ mm)))
          exact At_roundS 2 ⟨by omega, by omega, hg2⟩ (by omega) (by repeat (first | exact trivial | refine And.intro rfl ?_)) (by repeat (first | exact trivial | refine And.intro rfl ?_))
        · have hxn : ¬ bs[1].toNat = 72 := fun h => hx (BitVec.eq_of_toNat_eq h)
          have hg8 : ltB bs = .error 8 := by
            rw [← hg]
            show (if bs[1] = 72#8 then ltGo (ltL.drop 2) (bs.drop 2) else .error 8) = .error 8
            rw [if_neg hx]
          have hr8 : fiB bs = .error 8 := by rw [fiB, hg8]
          rw [h0] at hr8
          subst hr8
          repeat' (first
  | refine G_nilC ?_
  | refine G_nilN ?_
  | refine G_nilH ?_
  | (refine G_nil ?_; try clear ri_; try clear ops_)
  | (refine V_op ?_; first | exact True.intro | (intro v_ h_ w_ r_ t_; try (obtain ⟨ta_, tb_⟩ := (t_ : _ ∧ _)); try (obtain ⟨tb_, tc_⟩ := (tb_ : _ ∧ _)); try (obtain ⟨tc_, td_⟩ := (tc_ : _ ∧ _)); try (obtain ⟨td_, te_⟩ := (td_ : _ ∧ _))) | intro (ops_ : Array Oper) ri_ | intro (b_ : Bool) hb_ | (intro v_ h_; try (have o_ := FrzK.one h_)) | intro (v_ : Value) | intro (b_ : Nat) | (refine ⟨fun hc => ?_, fun hc => ?_⟩ <;> try (exfalso; omega)) | refine ⟨?_, ?_⟩ | intro _ | skip)
  | (refine Is_DQ ?_; first | (apply DQ_m rfl rfl rfl rfl; focus (intro wq_ Oq_ rq_ mm; (repeat (first | (refine G_nil ?_; exact X_done rfl (List.Sublist.refl _)) | refine V_op ?_)); done)) | (apply DQ_k rfl rfl rfl rfl; intro wq_ Oq_ rq_ mm) | (apply DQ_y rfl rfl rfl rfl; intro wq_ Oq_ rq_ mm)))
          refine ret_ rfl (by repeat (first | exact ResAll.nil | (apply ResAll.cons; first | exact .tmp rfl | exact .cell rfl rfl | exact .one rfl))) fun w' h' => ?_
          exact ⟨rfl, SubM.ent.st h'⟩
      · by_cases hx : bs[2] = 77#8
        · have hxn : bs[2].toNat = 77 := by rw [hx]; rfl
          have hg2 : ltGo (ltL.drop 3) (bs.drop 3) = ltB bs := by rw [← hg]; simp [ltL, ltGo, hx]
          repeat' (first
  | refine G_nilC ?_
  | refine G_nilN ?_
  | refine G_nilH ?_
  | (refine G_nil ?_; try clear ri_; try clear ops_)
  | (refine V_op ?_; first | exact True.intro | (intro v_ h_ w_ r_ t_; try (obtain ⟨ta_, tb_⟩ := (t_ : _ ∧ _)); try (obtain ⟨tb_, tc_⟩ := (tb_ : _ ∧ _)); try (obtain ⟨tc_, td_⟩ := (tc_ : _ ∧ _)); try (obtain ⟨td_, te_⟩ := (td_ : _ ∧ _))) | intro (ops_ : Array Oper) ri_ | intro (b_ : Bool) hb_ | (intro v_ h_; try (have o_ := FrzK.one h_)) | intro (v_ : Value) | intro (b_ : Nat) | (refine ⟨fun hc => ?_, fun hc => ?_⟩ <;> try (exfalso; omega)) | refine ⟨?_, ?_⟩ | intro _ | skip)
  | (refine Is_DQ ?_; first | (apply DQ_m rfl rfl rfl rfl; focus (intro wq_ Oq_ rq_ mm; (repeat (first | (refine G_nil ?_; exact X_done rfl (List.Sublist.refl _)) | refine V_op ?_)); done)) | (apply DQ_k rfl rfl rfl rfl; intro wq_ Oq_ rq_ mm) | (apply DQ_y rfl rfl rfl rfl; intro wq_ Oq_ rq_ mm)))
          exact At_roundS 3 ⟨by omega, by omega, hg2⟩ (by omega) (by repeat (first | exact trivial | refine And.intro rfl ?_)) (by repeat (first | exact trivial | refine And.intro rfl ?_))
        · have hxn : ¬ bs[2].toNat = 77 := fun h => hx (BitVec.eq_of_toNat_eq h)
          have hg8 : ltB bs = .error 8 := by
            rw [← hg]
            show (if bs[2] = 77#8 then ltGo (ltL.drop 3) (bs.drop 3) else .error 8) = .error 8
            rw [if_neg hx]
          have hr8 : fiB bs = .error 8 := by rw [fiB, hg8]
          rw [h0] at hr8
          subst hr8
          repeat' (first
  | refine G_nilC ?_
  | refine G_nilN ?_
  | refine G_nilH ?_
  | (refine G_nil ?_; try clear ri_; try clear ops_)
  | (refine V_op ?_; first | exact True.intro | (intro v_ h_ w_ r_ t_; try (obtain ⟨ta_, tb_⟩ := (t_ : _ ∧ _)); try (obtain ⟨tb_, tc_⟩ := (tb_ : _ ∧ _)); try (obtain ⟨tc_, td_⟩ := (tc_ : _ ∧ _)); try (obtain ⟨td_, te_⟩ := (td_ : _ ∧ _))) | intro (ops_ : Array Oper) ri_ | intro (b_ : Bool) hb_ | (intro v_ h_; try (have o_ := FrzK.one h_)) | intro (v_ : Value) | intro (b_ : Nat) | (refine ⟨fun hc => ?_, fun hc => ?_⟩ <;> try (exfalso; omega)) | refine ⟨?_, ?_⟩ | intro _ | skip)
  | (refine Is_DQ ?_; first | (apply DQ_m rfl rfl rfl rfl; focus (intro wq_ Oq_ rq_ mm; (repeat (first | (refine G_nil ?_; exact X_done rfl (List.Sublist.refl _)) | refine V_op ?_)); done)) | (apply DQ_k rfl rfl rfl rfl; intro wq_ Oq_ rq_ mm) | (apply DQ_y rfl rfl rfl rfl; intro wq_ Oq_ rq_ mm)))
          refine ret_ rfl (by repeat (first | exact ResAll.nil | (apply ResAll.cons; first | exact .tmp rfl | exact .cell rfl rfl | exact .one rfl))) fun w' h' => ?_
          exact ⟨rfl, SubM.ent.st h'⟩
    · have hg7 : ltB bs = .error 7 := by
        rw [← hg, List.drop_of_length_le (l := bs) (by omega)]
        rcases (by omega : k = 0 ∨ k = 1 ∨ k = 2) with rfl | rfl | rfl <;> rfl
      have hr7 : fiB bs = .error 7 := by rw [fiB, hg7]
      rw [h0] at hr7
      subst hr7
      repeat' (first
  | refine G_nilC ?_
  | refine G_nilN ?_
  | refine G_nilH ?_
  | (refine G_nil ?_; try clear ri_; try clear ops_)
  | (refine V_op ?_; first | exact True.intro | (intro v_ h_ w_ r_ t_; try (obtain ⟨ta_, tb_⟩ := (t_ : _ ∧ _)); try (obtain ⟨tb_, tc_⟩ := (tb_ : _ ∧ _)); try (obtain ⟨tc_, td_⟩ := (tc_ : _ ∧ _)); try (obtain ⟨td_, te_⟩ := (td_ : _ ∧ _))) | intro (ops_ : Array Oper) ri_ | intro (b_ : Bool) hb_ | (intro v_ h_; try (have o_ := FrzK.one h_)) | intro (v_ : Value) | intro (b_ : Nat) | (refine ⟨fun hc => ?_, fun hc => ?_⟩ <;> try (exfalso; omega)) | refine ⟨?_, ?_⟩ | intro _ | skip)
  | (refine Is_DQ ?_; first | (apply DQ_m rfl rfl rfl rfl; focus (intro wq_ Oq_ rq_ mm; (repeat (first | (refine G_nil ?_; exact X_done rfl (List.Sublist.refl _)) | refine V_op ?_)); done)) | (apply DQ_k rfl rfl rfl rfl; intro wq_ Oq_ rq_ mm) | (apply DQ_y rfl rfl rfl rfl; intro wq_ Oq_ rq_ mm)))
      refine ret_ rfl (by repeat (first | exact ResAll.nil | (apply ResAll.cons; first | exact .tmp rfl | exact .cell rfl rfl | exact .one rfl))) fun w' h' => ?_
      exact ⟨rfl, SubM.ent.st h'⟩
  · obtain rfl : k = 3 := by omega
    have hok : ltB bs = .ok () := by rw [← hg]; rfl
    rw [fiB, hok] at hr
    simp only at hr
    cases h2 : bs.drop 3 with
    | nil =>
      rw [h2] at hr
      simp only at hr
      subst hr
      have hl3 : bs.length = 3 := by
        have := congrArg List.length h2
        simp only [List.length_drop, List.length_nil] at this
        omega
      repeat' (first
  | refine G_nilC ?_
  | refine G_nilN ?_
  | refine G_nilH ?_
  | (refine G_nil ?_; try clear ri_; try clear ops_)
  | (refine V_op ?_; first | exact True.intro | (intro v_ h_ w_ r_ t_; try (obtain ⟨ta_, tb_⟩ := (t_ : _ ∧ _)); try (obtain ⟨tb_, tc_⟩ := (tb_ : _ ∧ _)); try (obtain ⟨tc_, td_⟩ := (tc_ : _ ∧ _)); try (obtain ⟨td_, te_⟩ := (td_ : _ ∧ _))) | intro (ops_ : Array Oper) ri_ | intro (b_ : Bool) hb_ | (intro v_ h_; try (have o_ := FrzK.one h_)) | intro (v_ : Value) | intro (b_ : Nat) | (refine ⟨fun hc => ?_, fun hc => ?_⟩ <;> try (exfalso; omega)) | refine ⟨?_, ?_⟩ | intro _ | skip)
  | (refine Is_DQ ?_; first | (apply DQ_m rfl rfl rfl rfl; focus (intro wq_ Oq_ rq_ mm; (repeat (first | (refine G_nil ?_; exact X_done rfl (List.Sublist.refl _)) | refine V_op ?_)); done)) | (apply DQ_k rfl rfl rfl rfl; intro wq_ Oq_ rq_ mm) | (apply DQ_y rfl rfl rfl rfl; intro wq_ Oq_ rq_ mm)))
      refine ret_ rfl (by repeat (first | exact ResAll.nil | (apply ResAll.cons; first | exact .tmp rfl | exact .cell rfl rfl | exact .one rfl))) fun w' h' => ?_
      exact ⟨rfl, SubM.ent.st h'⟩
    | cons x t =>
      rw [h2] at hr
      simp only at hr
      have hbl := congrArg List.length h2
      simp only [List.length_drop, List.length_cons] at hbl
      have ht : bs.drop (3 + 1) = t := by rw [← List.drop_drop, h2]; rfl
      have hx3 : bs[3]'(by omega) = x := by
        rw [List.drop_eq_getElem_cons (by omega)] at h2
        exact (List.cons.inj h2).1
      subst hx3
      haveI : Eqn (bs.drop (3 + 1)) t := ⟨ht⟩
      by_cases hx : 1 ≤ (bs[3]'(by omega)).toNat ∧ (bs[3]'(by omega)).toNat ≤ 9
      rotate_left
      · rw [if_pos hx] at hr
        subst hr
        repeat' (first
  | refine G_nilC ?_
  | refine G_nilN ?_
  | refine G_nilH ?_
  | (refine G_nil ?_; try clear ri_; try clear ops_)
  | (refine V_op ?_; first | exact True.intro | (intro v_ h_ w_ r_ t_; try (obtain ⟨ta_, tb_⟩ := (t_ : _ ∧ _)); try (obtain ⟨tb_, tc_⟩ := (tb_ : _ ∧ _)); try (obtain ⟨tc_, td_⟩ := (tc_ : _ ∧ _)); try (obtain ⟨td_, te_⟩ := (td_ : _ ∧ _))) | intro (ops_ : Array Oper) ri_ | intro (b_ : Bool) hb_ | (intro v_ h_; try (have o_ := FrzK.one h_)) | intro (v_ : Value) | intro (b_ : Nat) | (refine ⟨fun hc => ?_, fun hc => ?_⟩ <;> try (exfalso; omega)) | refine ⟨?_, ?_⟩ | intro _ | skip)
  | (refine Is_DQ ?_; first | (apply DQ_m rfl rfl rfl rfl; focus (intro wq_ Oq_ rq_ mm; (repeat (first | (refine G_nil ?_; exact X_done rfl (List.Sublist.refl _)) | refine V_op ?_)); done)) | (apply DQ_k rfl rfl rfl rfl; intro wq_ Oq_ rq_ mm) | (apply DQ_y rfl rfl rfl rfl; intro wq_ Oq_ rq_ mm)))
        all_goals
          refine ret_ rfl (by repeat (first | exact ResAll.nil | (apply ResAll.cons; first | exact .tmp rfl | exact .cell rfl rfl | exact .one rfl))) fun w' h' => ?_
          exact ⟨rfl, SubM.ent.st h'⟩
      · rw [if_neg (by omega)] at hr
        have hun : ∀ (l : List Int) (k : Nat), (unL (Except.ok (l, k))).length = l.length := fun _ _ => rfl
        cases h3 : unpB t with
        | error e =>
          rw [h3] at hr
          simp only at hr
          subst hr
          have he := unp_err h3
          haveI : Eqn (unpB t) (.error e) := ⟨h3⟩
          repeat' (first
  | refine G_nilC ?_
  | refine G_nilN ?_
  | refine G_nilH ?_
  | (refine G_nil ?_; try clear ri_; try clear ops_)
  | (refine V_op ?_; first | exact True.intro | (intro v_ h_ w_ r_ t_; try (obtain ⟨ta_, tb_⟩ := (t_ : _ ∧ _)); try (obtain ⟨tb_, tc_⟩ := (tb_ : _ ∧ _)); try (obtain ⟨tc_, td_⟩ := (tc_ : _ ∧ _)); try (obtain ⟨td_, te_⟩ := (td_ : _ ∧ _))) | intro (ops_ : Array Oper) ri_ | intro (b_ : Bool) hb_ | (intro v_ h_; try (have o_ := FrzK.one h_)) | intro (v_ : Value) | intro (b_ : Nat) | (refine ⟨fun hc => ?_, fun hc => ?_⟩ <;> try (exfalso; omega)) | refine ⟨?_, ?_⟩ | intro _ | skip)
  | (refine Is_DQ ?_; first | (apply DQ_m rfl rfl rfl rfl; focus (intro wq_ Oq_ rq_ mm; (repeat (first | (refine G_nil ?_; exact X_done rfl (List.Sublist.refl _)) | refine V_op ?_)); done)) | (apply DQ_k rfl rfl rfl rfl; intro wq_ Oq_ rq_ mm) | (apply DQ_y rfl rfl rfl rfl; intro wq_ Oq_ rq_ mm)))
          refine ret_ rfl (by repeat (first | exact ResAll.nil | (apply ResAll.cons; first | exact .tmp rfl | exact .cell rfl rfl | exact .one rfl))) fun w' h' => ?_
          exact ⟨rfl, SubM.ent.st h'⟩
        | ok p3 =>
          obtain ⟨l, k⟩ := p3
          rw [h3] at hr
          simp only at hr
          haveI : Eqn (unpB t) (.ok (l, k)) := ⟨h3⟩
          have hul := hun l k
          by_cases hl : 40 < l.length
          · rw [if_pos hl] at hr
            subst hr
            repeat' (first
  | refine G_nilC ?_
  | refine G_nilN ?_
  | refine G_nilH ?_
  | (refine G_nil ?_; try clear ri_; try clear ops_)
  | (refine V_op ?_; first | exact True.intro | (intro v_ h_ w_ r_ t_; try (obtain ⟨ta_, tb_⟩ := (t_ : _ ∧ _)); try (obtain ⟨tb_, tc_⟩ := (tb_ : _ ∧ _)); try (obtain ⟨tc_, td_⟩ := (tc_ : _ ∧ _)); try (obtain ⟨td_, te_⟩ := (td_ : _ ∧ _))) | intro (ops_ : Array Oper) ri_ | intro (b_ : Bool) hb_ | (intro v_ h_; try (have o_ := FrzK.one h_)) | intro (v_ : Value) | intro (b_ : Nat) | (refine ⟨fun hc => ?_, fun hc => ?_⟩ <;> try (exfalso; omega)) | refine ⟨?_, ?_⟩ | intro _ | skip)
  | (refine Is_DQ ?_; first | (apply DQ_m rfl rfl rfl rfl; focus (intro wq_ Oq_ rq_ mm; (repeat (first | (refine G_nil ?_; exact X_done rfl (List.Sublist.refl _)) | refine V_op ?_)); done)) | (apply DQ_k rfl rfl rfl rfl; intro wq_ Oq_ rq_ mm) | (apply DQ_y rfl rfl rfl rfl; intro wq_ Oq_ rq_ mm)))
            refine ret_ rfl (by repeat (first | exact ResAll.nil | (apply ResAll.cons; first | exact .tmp rfl | exact .cell rfl rfl | exact .one rfl))) fun w' h' => ?_
            exact ⟨rfl, SubM.ent.st h'⟩
          · rw [if_neg hl] at hr
            cases h4 : rdB (t.drop k) with
            | error e =>
              rw [h4] at hr
              simp only at hr
              subst hr
              have he := rd_err h4
              haveI : Eqn (rdB (t.drop k)) (.error e) := ⟨h4⟩
              repeat' (first
  | refine G_nilC ?_
  | refine G_nilN ?_
  | refine G_nilH ?_
  | (refine G_nil ?_; try clear ri_; try clear ops_)
  | (refine V_op ?_; first | exact True.intro | (intro v_ h_ w_ r_ t_; try (obtain ⟨ta_, tb_⟩ := (t_ : _ ∧ _)); try (obtain ⟨tb_, tc_⟩ := (tb_ : _ ∧ _)); try (obtain ⟨tc_, td_⟩ := (tc_ : _ ∧ _)); try (obtain ⟨td_, te_⟩ := (td_ : _ ∧ _))) | intro (ops_ : Array Oper) ri_ | intro (b_ : Bool) hb_ | (intro v_ h_; try (have o_ := FrzK.one h_)) | intro (v_ : Value) | intro (b_ : Nat) | (refine ⟨fun hc => ?_, fun hc => ?_⟩ <;> try (exfalso; omega)) | refine ⟨?_, ?_⟩ | intro _ | skip)
  | (refine Is_DQ ?_; first | (apply DQ_m rfl rfl rfl rfl; focus (intro wq_ Oq_ rq_ mm; (repeat (first | (refine G_nil ?_; exact X_done rfl (List.Sublist.refl _)) | refine V_op ?_)); done)) | (apply DQ_k rfl rfl rfl rfl; intro wq_ Oq_ rq_ mm) | (apply DQ_y rfl rfl rfl rfl; intro wq_ Oq_ rq_ mm)))
              refine ret_ rfl (by repeat (first | exact ResAll.nil | (apply ResAll.cons; first | exact .tmp rfl | exact .cell rfl rfl | exact .one rfl))) fun w' h' => ?_
              exact ⟨rfl, SubM.ent.st h'⟩
            | ok p4 =>
              obtain ⟨u, j⟩ := p4
              rw [h4] at hr
              simp only at hr
              haveI : Eqn (rdB (t.drop k)) (.ok (u, j)) := ⟨h4⟩
              by_cases hu : 65536 < u.toNat
              · rw [if_pos hu] at hr
                subst hr
                repeat' (first
  | refine G_nilC ?_
  | refine G_nilN ?_
  | refine G_nilH ?_
  | (refine G_nil ?_; try clear ri_; try clear ops_)
  | (refine V_op ?_; first | exact True.intro | (intro v_ h_ w_ r_ t_; try (obtain ⟨ta_, tb_⟩ := (t_ : _ ∧ _)); try (obtain ⟨tb_, tc_⟩ := (tb_ : _ ∧ _)); try (obtain ⟨tc_, td_⟩ := (tc_ : _ ∧ _)); try (obtain ⟨td_, te_⟩ := (td_ : _ ∧ _))) | intro (ops_ : Array Oper) ri_ | intro (b_ : Bool) hb_ | (intro v_ h_; try (have o_ := FrzK.one h_)) | intro (v_ : Value) | intro (b_ : Nat) | (refine ⟨fun hc => ?_, fun hc => ?_⟩ <;> try (exfalso; omega)) | refine ⟨?_, ?_⟩ | intro _ | skip)
  | (refine Is_DQ ?_; first | (apply DQ_m rfl rfl rfl rfl; focus (intro wq_ Oq_ rq_ mm; (repeat (first | (refine G_nil ?_; exact X_done rfl (List.Sublist.refl _)) | refine V_op ?_)); done)) | (apply DQ_k rfl rfl rfl rfl; intro wq_ Oq_ rq_ mm) | (apply DQ_y rfl rfl rfl rfl; intro wq_ Oq_ rq_ mm)))
                refine ret_ rfl (by repeat (first | exact ResAll.nil | (apply ResAll.cons; first | exact .tmp rfl | exact .cell rfl rfl | exact .one rfl))) fun w' h' => ?_
                exact ⟨rfl, SubM.ent.st h'⟩
              · rw [if_neg hu, fi2] at hr
                have hui : u.toInt = u.toNat := by rw [BitVec.toInt_eq_toNat_cond, if_pos (by omega)]
                have hk := (unp_off h3).1
                have hj := (rdB_le h4).2
                have ht4 : t = bs.drop 4 := ht.symm
                have hq : (t.drop k).drop j = bs.drop (4 + (k + j)) := by rw [ht4, List.drop_drop, List.drop_drop]
                simp only [List.length_drop] at hj
                have hql : ((t.drop k).drop j).length = t.length - k - j := by simp only [List.length_drop]
                by_cases hn : ((t.drop k).drop j).length < u.toNat + 8
                · rw [if_pos hn] at hr
                  subst hr
                  repeat' (first
  | refine G_nilC ?_
  | refine G_nilN ?_
  | refine G_nilH ?_
  | (refine G_nil ?_; try clear ri_; try clear ops_)
  | (refine V_op ?_; first | exact True.intro | (intro v_ h_ w_ r_ t_; try (obtain ⟨ta_, tb_⟩ := (t_ : _ ∧ _)); try (obtain ⟨tb_, tc_⟩ := (tb_ : _ ∧ _)); try (obtain ⟨tc_, td_⟩ := (tc_ : _ ∧ _)); try (obtain ⟨td_, te_⟩ := (td_ : _ ∧ _))) | intro (ops_ : Array Oper) ri_ | intro (b_ : Bool) hb_ | (intro v_ h_; try (have o_ := FrzK.one h_)) | intro (v_ : Value) | intro (b_ : Nat) | (refine ⟨fun hc => ?_, fun hc => ?_⟩ <;> try (exfalso; omega)) | refine ⟨?_, ?_⟩ | intro _ | skip)
  | (refine Is_DQ ?_; first | (apply DQ_m rfl rfl rfl rfl; focus (intro wq_ Oq_ rq_ mm; (repeat (first | (refine G_nil ?_; exact X_done rfl (List.Sublist.refl _)) | refine V_op ?_)); done)) | (apply DQ_k rfl rfl rfl rfl; intro wq_ Oq_ rq_ mm) | (apply DQ_y rfl rfl rfl rfl; intro wq_ Oq_ rq_ mm)))
                  refine ret_ rfl (by repeat (first | exact ResAll.nil | (apply ResAll.cons; first | exact .tmp rfl | exact .cell rfl rfl | exact .one rfl))) fun w' h' => ?_
                  exact ⟨rfl, SubM.ent.st h'⟩
                · rw [if_neg hn] at hr
                  have hA : (bs.drop 0).take ((bs.length - ((t.drop k).drop j).length + u.toInt.toNat) - 0) = bs.take (bs.length - (((t.drop k).drop j).length - u.toNat)) := by
                    rw [List.drop_zero, Nat.sub_zero]
                    congr 1
                    omega
                  have hhl : ((bs.drop 0).take ((bs.length - ((t.drop k).drop j).length + u.toInt.toNat) - 0)).length ≤ bs.length := by
                    simp only [List.length_take, List.length_drop]; omega
                  have hB : (bs.drop (bs.length - ((t.drop k).drop j).length + u.toInt.toNat)).take ((bs.length - ((t.drop k).drop j).length + u.toInt.toNat) + 8 - (bs.length - ((t.drop k).drop j).length + u.toInt.toNat)) = (((t.drop k).drop j).drop u.toNat).take 8 := by
                    rw [Nat.add_sub_cancel_left, hq, List.drop_drop, List.length_drop]
                    congr 2
                    omega
                  have hre : bs.drop ((bs.length - ((t.drop k).drop j).length + u.toInt.toNat) + 8) = bs.drop (bs.length - (((t.drop k).drop j).length - u.toNat) + 8) := by
                    congr 1
                    omega
                  have b1 : RdOld w0 O (cut (BitVec 8) v 4 bs.length) t := by
                    have := h.rest (lo := 4) (by omega)
                    rwa [← ht4] at this
                  have b2 := rdOld_restV b1 h3
                  have b3 := b2.rest (rdB_le h4).2
                  have b4 := rdOld_cutT b3 (lo := 0) (hi := u.toInt.toNat) (Nat.zero_le _) (by omega)
                  have b5 := h.rest (lo := (bs.length - ((t.drop k).drop j).length + u.toInt.toNat) + 8) (by omega)
                  rw [hre] at b5
                  have e4 : (((t.drop k).drop j).drop 0).take (u.toInt.toNat - 0) = ((t.drop k).drop j).take u.toNat := by
                    rw [List.drop_zero, Nat.sub_zero]
                    congr 1
                    omega
                  rw [e4] at b4
                  repeat' (first
  | refine G_nilC ?_
  | refine G_nilN ?_
  | refine G_nilH ?_
  | (refine G_nil ?_; try clear ri_; try clear ops_)
  | (refine V_op ?_; first | exact True.intro | (intro v_ h_ w_ r_ t_; try (obtain ⟨ta_, tb_⟩ := (t_ : _ ∧ _)); try (obtain ⟨tb_, tc_⟩ := (tb_ : _ ∧ _)); try (obtain ⟨tc_, td_⟩ := (tc_ : _ ∧ _)); try (obtain ⟨td_, te_⟩ := (td_ : _ ∧ _))) | intro (ops_ : Array Oper) ri_ | intro (b_ : Bool) hb_ | (intro v_ h_; try (have o_ := FrzK.one h_)) | intro (v_ : Value) | intro (b_ : Nat) | (refine ⟨fun hc => ?_, fun hc => ?_⟩ <;> try (exfalso; omega)) | refine ⟨?_, ?_⟩ | intro _ | skip)
  | (refine Is_DQ ?_; first | (apply DQ_m rfl rfl rfl rfl; focus (intro wq_ Oq_ rq_ mm; (repeat (first | (refine G_nil ?_; exact X_done rfl (List.Sublist.refl _)) | refine V_op ?_)); done)) | (apply DQ_k rfl rfl rfl rfl; intro wq_ Oq_ rq_ mm) | (apply DQ_y rfl rfl rfl rfl; intro wq_ Oq_ rq_ mm)))
                  · rw [hA, hB] at hc
                    rw [if_neg hc] at hr
                    subst hr
                    refine ret_ rfl (by repeat (first | exact ResAll.nil | (apply ResAll.cons; first | exact .tmp rfl | exact .cell rfl rfl | exact .one rfl))) fun w' h' => ?_
                    exact ⟨rfl, SubM.ent.st h'⟩
                  · rw [hA, hB] at hc
                    rw [if_pos (Decidable.not_not.1 hc)] at hr
                    subst hr
                    rename_i q _ _ _ _ _ _ _ _ _ _
                    generalize cut (BitVec 8) (cut (BitVec 8) (restV (cut (BitVec 8) v 4 bs.length) t) j (t.drop k).length) 0 u.toInt.toNat = dv at b4 ⊢
                    generalize cut (BitVec 8) v ((bs.length - ((t.drop k).drop j).length + u.toInt.toNat) + 8) bs.length = rv at b5 ⊢
                    (first | refine G_frz q ?_ | refine GC_frz q ?_ | refine At_frz q ?_); intro w_ _ _ _
                    refine ret_ rfl (by repeat (first | exact ResAll.nil | (apply ResAll.cons; first | exact .tmp rfl | exact .cell rfl rfl | exact .one rfl))) fun w' h' => ?_
                    exact RetD.mk (⟨q, One.h⟩, ⟨dv, b4.isOne.h⟩, ⟨rv, b5.isOne.h⟩) trivial rfl h' (ht := ⟨inferInstance, inferInstance, inferInstance⟩)
section
variable {w0 : World} {O : List Nat} {m : List As} {v : Value} {bs : List (BitVec 8)} {f : Fl} {n : Nat} {e : Int}
instance [h : RdOld w0 O v bs] [hr : Eqn (fiB bs) (.ok (f, n))] : CallD Try.prog w0 O m 29 [v] (bs.length ≤ 900000) (fun _ : V1 × V1 × V1 => True) (fun i => .agg #[I f.k, i.1.v, i.2.1.v, i.2.2.v, I 0]) (fun i w O => RdOld w O i.1.v f.id ∧ RdOld w O i.2.1.v f.da ∧ RdOld w O i.2.2.v (bs.drop n)) :=
  ⟨fun hs w hw => ref_First w0 O m v bs hs _ hr.eq w hw⟩
instance [h : RdOld w0 O v bs] [hr : Eqn (fiB bs) (.error e)] : CallV Try.prog w0 O m 29 [v] (bs.length ≤ 900000) (.agg #[I 0, .slice none 0 0, .slice none 0 0, .slice none 0 0, I e]) :=
  ⟨fun hs w hw => @ref_First w [] [] v bs ⟨h.old.new hw (fun b hb => by simp at hb)⟩ hs _ hr.eq w (St.refl w)⟩
end
theorem ref_OpenIn (w0 : World) (O : List Nat) (m : List As) (v : Value) (bs : List (BitVec 8)) (f : Fl) [h : RdOld w0 O v bs] (hr : opB bs = .ok f) (hb : bs.length ≤ 900000) (w : World) (hw : St w0 O m w) :
    Calls Try.prog 20 #[v] w (RetD w0 O m (fun _ : V1 × V1 × V1 => True) (fun i => .agg #[I f.k, i.1.v, i.2.1.v, i.2.2.v, I 0]) (fun i w O => RdOld w O i.1.v f.id ∧ RdOld w O i.2.1.v f.da ∧ RdOld w O i.2.2.v ([] : List (BitVec 8)))) := by
  haveI : One v := h.isOne
  rw [opB] at hr
  split at hr
  · cases hr
  · rename_i f1 n hf
    split at hr
    · cases hr
    · rename_i hn
      simp only [Except.ok.injEq] at hr
      subst hr
      haveI : Eqn (fiB bs) (.ok (f1, n)) := ⟨hf⟩
      have hl := (fi_len hf).2
      have hdl : (bs.drop n).length = bs.length - n := List.length_drop
      have hdn : bs.drop n = [] := List.drop_of_length_le (by omega)
      refine enterF (N := 17) (args := [v]) Try.func20 rfl rfl rfl hw ?_
      repeat' (first
  | refine G_nilC ?_
  | refine G_nilN ?_
  | refine G_nilH ?_
  | (refine G_nil ?_; try clear ri_; try clear ops_)
  | (refine V_op ?_; first | exact True.intro | (intro v_ h_ w_ r_ t_; try (obtain ⟨ta_, tb_⟩ := (t_ : _ ∧ _)); try (obtain ⟨tb_, tc_⟩ := (tb_ : _ ∧ _)); try (obtain ⟨tc_, td_⟩ := (tc_ : _ ∧ _)); try (obtain ⟨td_, te_⟩ := (td_ : _ ∧ _))) | intro (ops_ : Array Oper) ri_ | intro (b_ : Bool) hb_ | (intro v_ h_; try (have o_ := FrzK.one h_)) | intro (v_ : Value) | intro (b_ : Nat) | (refine ⟨fun hc => ?_, fun hc => ?_⟩ <;> try (exfalso; omega)) | refine ⟨?_, ?_⟩ | intro _ | skip)
  | (refine Is_DQ ?_; first | (apply DQ_m rfl rfl rfl rfl; focus (intro wq_ Oq_ rq_ mm; (repeat (first | (refine G_nil ?_; exact X_done rfl (List.Sublist.refl _)) | refine V_op ?_)); done)) | (apply DQ_k rfl rfl rfl rfl; intro wq_ Oq_ rq_ mm) | (apply DQ_y rfl rfl rfl rfl; intro wq_ Oq_ rq_ mm)))
      refine ret_ rfl (by repeat (first | exact ResAll.nil | (apply ResAll.cons; first | exact .tmp rfl | exact .cell rfl rfl | exact .one rfl))) fun w' h' => ?_
      exact RetD.mk v_ trivial rfl h' (ht := ⟨inferInstance, inferInstance, by rw [← hdn]; infer_instance⟩)
theorem ref_OpenInE (w0 : World) (O : List Nat) (m : List As) (v : Value) (bs : List (BitVec 8)) (e : Int) [h : RdOld w0 O v bs] (hr : opB bs = .error e) (hb : bs.length ≤ 900000) (w : World) (hw : St w0 O m w) :
    Calls Try.prog 20 #[v] w (RetD w0 O m (fun _ : Unit => True) (fun _ => .agg #[I 0, .slice none 0 0, .slice none 0 0, .slice none 0 0, I e]) (fun _ _ _ => True)) := by
  haveI : One v := h.isOne
  rw [opB] at hr
  split at hr
  · rename_i e1 hf
    simp only [Except.error.injEq] at hr
    subst hr
    have he := fi_err hf
    haveI : Eqn (fiB bs) (.error e1) := ⟨hf⟩
    refine enterF (N := 17) (args := [v]) Try.func20 rfl rfl rfl hw ?_
    repeat' (first
  | refine G_nilC ?_
  | refine G_nilN ?_
  | refine G_nilH ?_
  | (refine G_nil ?_; try clear ri_; try clear ops_)
  | (refine V_op ?_; first | exact True.intro | (intro v_ h_ w_ r_ t_; try (obtain ⟨ta_, tb_⟩ := (t_ : _ ∧ _)); try (obtain ⟨tb_, tc_⟩ := (tb_ : _ ∧ _)); try (obtain ⟨tc_, td_⟩ := (tc_ : _ ∧ _)); try (obtain ⟨td_, te_⟩ := (td_ : _ ∧ _))) | intro (ops_ : Array Oper) ri_ | intro (b_ : Bool) hb_ | (intro v_ h_; try (have o_ := FrzK.one h_)) | intro (v_ : Value) | intro (b_ : Nat) | (refine ⟨fun hc => ?_, fun hc => ?_⟩ <;> try (exfalso; omega)) | refine ⟨?_, ?_⟩ | intro _ | skip)
  | (refine Is_DQ ?_; first | (apply DQ_m rfl rfl rfl rfl; focus (intro wq_ Oq_ rq_ mm; (repeat (first | (refine G_nil ?_; exact X_done rfl (List.Sublist.refl _)) | refine V_op ?_)); done)) | (apply DQ_k rfl rfl rfl rfl; intro wq_ Oq_ rq_ mm) | (apply DQ_y rfl rfl rfl rfl; intro wq_ Oq_ rq_ mm)))
    refine ret_ rfl (by repeat (first | exact ResAll.nil | (apply ResAll.cons; first | exact .tmp rfl | exact .cell rfl rfl | exact .one rfl))) fun w' h' => ?_
    exact RetD.mk () trivial rfl h' (ht := trivial)
  · rename_i f1 n hf
    split at hr
    · rename_i hn
      simp only [Except.error.injEq] at hr
      subst hr
      haveI : Eqn (fiB bs) (.ok (f1, n)) := ⟨hf⟩
      have hl := (fi_len hf).2
      have hdl : (bs.drop n).length = bs.length - n := List.length_drop
      refine enterF (N := 17) (args := [v]) Try.func20 rfl rfl rfl hw ?_
      repeat' (first
  | refine G_nilC ?_
  | refine G_nilN ?_
  | refine G_nilH ?_
  | (refine G_nil ?_; try clear ri_; try clear ops_)
  | (refine V_op ?_; first | exact True.intro | (intro v_ h_ w_ r_ t_; try (obtain ⟨ta_, tb_⟩ := (t_ : _ ∧ _)); try (obtain ⟨tb_, tc_⟩ := (tb_ : _ ∧ _)); try (obtain ⟨tc_, td_⟩ := (tc_ : _ ∧ _)); try (obtain ⟨td_, te_⟩ := (td_ : _ ∧ _))) | intro (ops_ : Array Oper) ri_ | intro (b_ : Bool) hb_ | (intro v_ h_; try (have o_ := FrzK.one h_)) | intro (v_ : Value) | intro (b_ : Nat) | (refine ⟨fun hc => ?_, fun hc => ?_⟩ <;> try (exfalso; omega)) | refine ⟨?_, ?_⟩ | intro _ | skip)
  | (refine Is_DQ ?_; first | (apply DQ_m rfl rfl rfl rfl; focus (intro wq_ Oq_ rq_ mm; (repeat (first | (refine G_nil ?_; exact X_done rfl (List.Sublist.refl _)) | refine V_op ?_)); done)) | (apply DQ_k rfl rfl rfl rfl; intro wq_ Oq_ rq_ mm) | (apply DQ_y rfl rfl rfl rfl; intro wq_ Oq_ rq_ mm)))
      refine ret_ rfl (by repeat (first | exact ResAll.nil | (apply ResAll.cons; first | exact .tmp rfl | exact .cell rfl rfl | exact .one rfl))) fun w' h' => ?_
      exact RetD.mk () trivial rfl h' (ht := trivial)
    · cases hr
end Go.Proofs.Ytdngfkmigpnbnaa
