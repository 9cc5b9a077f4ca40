/- The walk of ContainerMatchesReference. -/
import Derived.Test.YtdngfkmigpnbnaaCnl
set_option linter.unusedVariables false
set_option linter.unusedSimpArgs false
set_option maxRecDepth 100000
set_option maxHeartbeats 4000000
namespace Go.Proofs.Ytdngfkmigpnbnaa
open Go.RowKit
attribute [local irreducible] G GC At wpL DR XPost CPost Cut GA GAR GAX GAt NxA GH GHR NxH
attribute [local irreducible] fiB opB seB spB sumB packB cmpI seE seR

theorem sp_okF : ∀ (n : Nat) (bs : List (BitVec 8)), bs.length ≤ n → ∀ g ∈ (spB bs).1, OkF g
  | 0, bs, h, g, hg => by
    obtain rfl : bs = [] := List.length_eq_zero_iff.1 (by omega)
    rw [sp_err fi_nil] at hg
    simp at hg
  | n + 1, bs, h, g, hg => by
    cases hf : fiB bs with
    | error e => rw [sp_err hf] at hg; simp at hg
    | ok p =>
      obtain ⟨f, k⟩ := p
      have hk := fi_len hf
      rw [sp_ok hf] at hg
      rcases List.mem_cons.1 hg with rfl | hg
      · exact (fi_ok hf).1
      · exact sp_okF n (bs.drop k) (by rw [List.length_drop]; omega) g hg
instance (priority := low) subM_cons' {x : As} {m r : List As} [h : SubM m r] : SubM (x :: m) (x :: r) := ⟨h.ent.cons x⟩
structure OkG (x : api_File) : Prop where
  ok : okI x.Id.l
  id : x.Id.l.length ≤ 60
theorem walk_ContainerMatchesReference (w : World) (a0 : api_File) (g0 : Rng.rng a0) [t0 : Tru w [] a0] (a1 : chapmanref09_Raw) (g1 : Rng.rng a1) [t1 : Tru w [] a1] (a2 : Sl (BitVec 8)) (g2 : Rng.rng a2) [t2 : Tru w [] a2] :
    Calls Try.prog 3 #[Elt.val a0, Elt.val a1, a2.v] w (Is w (.bool true)) := by
  obtain ⟨fk, ⟨fiv, fil, fio⟩, ⟨fdv, fdl, fdo⟩⟩ := a0
  haveI h1 : RdOld w [] fiv fil := rdOld_tru (x := ⟨fiv, fil, fio⟩) (h := ⟨t0.h.2.1⟩)
  haveI h2 : RdOld w [] fdv fdl := rdOld_tru (x := ⟨fdv, fdl, fdo⟩) (h := ⟨t0.h.2.2⟩)
  haveI : One fiv := ⟨fio⟩
  haveI : One fdv := ⟨fdo⟩
  obtain ⟨kb, ⟨iv, il, io⟩, ⟨dv, dl, ido⟩⟩ := a1
  haveI h3 : RdOld w [] iv il := rdOld_tru (x := ⟨iv, il, io⟩) (h := ⟨t1.h.2.1⟩)
  haveI h4 : RdOld w [] dv dl := rdOld_tru (x := ⟨dv, dl, ido⟩) (h := ⟨t1.h.2.2⟩)
  haveI : One iv := ⟨io⟩
  haveI : One dv := ⟨ido⟩
  obtain ⟨bv, bs, ob⟩ := a2
  haveI h5 : RdOld w [] bv bs := rdOld_tru (x := ⟨bv, bs, ob⟩)
  haveI : One bv := ⟨ob⟩
  have hok : okI il := g1.2.1
  have hof : okI fil := g0.2.1
  have hot := ok_take hok
  have l1 := h1.rd.len_le
  have l2 := h2.rd.len_le
  have l5 := h5.rd.len_le
  clear g0 g1 g2 t0 t1 t2
  show Calls Try.prog 3 #[.agg #[I fk, fiv, fdv], .agg #[B8 kb, iv, dv], bv] w (Is w (.bool true))
  by_cases hs : fil.length ≤ 60 ∧ fdl.length ≤ 300 ∧ bs.length ≤ 400
  · obtain ⟨s1, s2, s3⟩ := hs
    have hf := mdF_ok (k := kb) (b := dl) hok
    have hle := seB_le2 (k := kb) (b := dl) hok
    have hpos := seB_pos (mdF kb il dl)
    have hse := se_ok hf
    have hop0 := op_se hf
    have hsp := fun r => sp_app [mdF kb il dl] r (by intro f h; simp at h; subst h; exact hf)
    have hlt : (il.take 40).length ≤ 40 := by rw [List.length_take]; omega
    simp only [mdF, List.flatMap_cons, List.flatMap_nil, List.append_nil] at hle hpos hse hsp hop0
    generalize hB : seB ⟨1 + (kb.toNat : Int) % 9, il.take 40, dl.take 200⟩ = B at *
    refine enter (N := 141) (args := [.agg #[I fk, fiv, fdv], .agg #[B8 kb, iv, dv], bv]) Try.func3 rfl rfl rfl (St.refl w) ?_
    repeat' (first
  | refine G_nilC ?_
  | refine G_nilN ?_
  | refine G_nilH ?_
  | (refine G_nil ?_; try clear ri_; try clear ops_)
  | (refine V_op ?_; first | exact True.intro | (intro v_ h_ w_ r_ t_; try (obtain ⟨ta_, tb_⟩ := (t_ : _ ∧ _)); try (obtain ⟨tb_, tc_⟩ := (tb_ : _ ∧ _)); try (obtain ⟨tc_, td_⟩ := (tc_ : _ ∧ _)); try (obtain ⟨td_, te_⟩ := (td_ : _ ∧ _))) | intro (ops_ : Array Oper) ri_ | intro (b_ : Bool) hb_ | (intro v_ h_; try (have o_ := FrzK.one h_)) | intro (v_ : Value) | intro (b_ : Nat) | (refine ⟨fun hc => ?_, fun hc => ?_⟩ <;> try (exfalso; omega)) | refine ⟨?_, ?_⟩ | intro _ | skip)
  | (refine Is_DQ ?_; first | (apply DQ_m rfl rfl rfl rfl; focus (intro wq_ Oq_ rq_ mm; (repeat (first | (refine G_nil ?_; exact X_done rfl (List.Sublist.refl _)) | refine V_op ?_)); done)) | (apply DQ_k rfl rfl rfl rfl; intro wq_ Oq_ rq_ mm) | (apply DQ_y rfl rfl rfl rfl; intro wq_ Oq_ rq_ mm)))
    rename_i mv
    have hLt : TruL w [] [(⟨fk, slOf fiv fil, slOf fdv fdl⟩ : api_File), ⟨1 + (kb.toNat : Int) % 9, slOf mv.1.v (il.take 40), slOf mv.2.v (dl.take 200)⟩] := inferInstance
    have hLk : ∀ x ∈ [(⟨fk, slOf fiv fil, slOf fdv fdl⟩ : api_File), ⟨1 + (kb.toNat : Int) % 9, slOf mv.1.v (il.take 40), slOf mv.2.v (dl.take 200)⟩], OkG x := by
      intro x hx
      simp only [List.mem_cons, List.not_mem_nil, or_false] at hx
      rcases hx with rfl | rfl
      · exact ⟨hof, s1⟩
      · exact ⟨hot, by show (il.take 40).length ≤ 60; omega⟩
    have hLl : [(⟨fk, slOf fiv fil, slOf fdv fdl⟩ : api_File), ⟨1 + (kb.toNat : Int) % 9, slOf mv.1.v (il.take 40), slOf mv.2.v (dl.take 200)⟩].length = 2 := rfl
    generalize [(⟨fk, slOf fiv fil, slOf fdv fdl⟩ : api_File), ⟨1 + (kb.toNat : Int) % 9, slOf mv.1.v (il.take 40), slOf mv.2.v (dl.take 200)⟩] = L at *
    refine GC_loopS (X := Nat) (fun k => k ≤ 2) (fun k s => (10, I k) :: s) (fun _ q => q) (fun k => 2 - k) 0 (by simp) (by repeat (first | exact trivial | refine And.intro rfl ?_)) ?_
    rintro k hk

    by_cases hlt2 : k < 2
    · have hkl : k < L.length := by omega
      obtain ⟨ho1, ho2⟩ := hLk _ (List.getElem_mem hkl)
      obtain ⟨e, he⟩ : ∃ e, seE ⟨(L[k]'hkl).Kind, (L[k]'hkl).Id.l, (L[k]'hkl).Data.l⟩ = e := ⟨_, rfl⟩
      obtain ⟨R, hR⟩ : ∃ R, seR ⟨(L[k]'hkl).Kind, (L[k]'hkl).Id.l, (L[k]'hkl).Data.l⟩ = R := ⟨_, rfl⟩
      haveI : Eqn (seE ⟨(L[k]'hkl).Kind, (L[k]'hkl).Id.l, (L[k]'hkl).Data.l⟩) e := ⟨he⟩
      haveI : Eqn (seR ⟨(L[k]'hkl).Kind, (L[k]'hkl).Id.l, (L[k]'hkl).Data.l⟩) R := ⟨hR⟩
      repeat' (first
  | refine G_nilC ?_
  | refine G_nilN ?_
  | refine G_nilH ?_
  | (refine G_nil ?_; try clear ri_; try clear ops_)
  | (refine V_op ?_; first | exact True.intro | (intro v_ h_ w_ r_ t_; try (obtain ⟨ta_, tb_⟩ := (t_ : _ ∧ _)); try (obtain ⟨tb_, tc_⟩ := (tb_ : _ ∧ _)); try (obtain ⟨tc_, td_⟩ := (tc_ : _ ∧ _)); try (obtain ⟨td_, te_⟩ := (td_ : _ ∧ _))) | intro (ops_ : Array Oper) ri_ | intro (b_ : Bool) hb_ | (intro v_ h_; try (have o_ := FrzK.one h_)) | intro (v_ : Value) | intro (b_ : Nat) | (refine ⟨fun hc => ?_, fun hc => ?_⟩ <;> try (exfalso; omega)) | refine ⟨?_, ?_⟩ | intro _ | skip)
  | (refine Is_DQ ?_; first | (apply DQ_m rfl rfl rfl rfl; focus (intro wq_ Oq_ rq_ mm; (repeat (first | (refine G_nil ?_; exact X_done rfl (List.Sublist.refl _)) | refine V_op ?_)); done)) | (apply DQ_k rfl rfl rfl rfl; intro wq_ Oq_ rq_ mm) | (apply DQ_y rfl rfl rfl rfl; intro wq_ Oq_ rq_ mm)))
      exact At_roundS (k + 1) (by omega) (by omega) (by repeat (first | exact trivial | refine And.intro rfl ?_)) (by repeat (first | exact trivial | refine And.intro rfl ?_))
    · haveI : Eqn (seE ⟨1 + (kb.toNat : Int) % 9, il.take 40, dl.take 200⟩) 0 := ⟨hse.1⟩
      haveI : Eqn (seR ⟨1 + (kb.toNat : Int) % 9, il.take 40, dl.take 200⟩) B := ⟨hse.2⟩
      obtain ⟨gs, r, hgs⟩ : ∃ gs r, spB (B ++ bs) = (gs, r) := ⟨_, _, rfl⟩
      haveI : Eqn (spB (B ++ bs)) (gs, r) := ⟨hgs⟩
      haveI : SmF gs := ⟨fun g hg => by
        have := (sp_okF _ (B ++ bs) (Nat.le_refl _) g (by rw [hgs]; exact hg)).id
        omega⟩
      have hBl : (B ++ bs).length ≤ 35000 := by rw [List.length_append]; omega
      have hop : opB B = .ok ⟨1 + (kb.toNat : Int) % 9, il.take 40, dl.take 200⟩ := hop0
      clear hgs hse hsp hok hof hf hB
      by_cases h1l : 1 < bs.length
      · have hmod : (bs[0]'(by omega)).toNat % B.length < B.length := Nat.mod_lt _ (by omega)
        have hset : (B.set ((bs[0]'(by omega)).toNat % B.length) (bs[1]'h1l)).length = B.length := List.length_set
        cases ho : opB bs with
        | ok f =>
          haveI : Eqn (opB bs) (.ok f) := ⟨ho⟩
          have hfi := (op_ok ho).1.id
          clear ho
          cases hq : opB (B.set ((bs[0]'(by omega)).toNat % B.length) (bs[1]'h1l)) with
          | ok f2 =>
            haveI : Eqn (opB (B.set ((bs[0]'(by omega)).toNat % B.length) (bs[1]'h1l))) (.ok f2) := ⟨hq⟩
            have hfj := (op_ok hq).1.id
            clear hq
            repeat' (first
  | refine G_nilC ?_
  | refine G_nilN ?_
  | refine G_nilH ?_
  | (refine G_nil ?_; try clear ri_; try clear ops_)
  | (refine V_op ?_; first | exact True.intro | (intro v_ h_ w_ r_ t_; try (obtain ⟨ta_, tb_⟩ := (t_ : _ ∧ _)); try (obtain ⟨tb_, tc_⟩ := (tb_ : _ ∧ _)); try (obtain ⟨tc_, td_⟩ := (tc_ : _ ∧ _)); try (obtain ⟨td_, te_⟩ := (td_ : _ ∧ _))) | intro (ops_ : Array Oper) ri_ | intro (b_ : Bool) hb_ | (intro v_ h_; try (have o_ := FrzK.one h_)) | intro (v_ : Value) | intro (b_ : Nat) | (refine ⟨fun hc => ?_, fun hc => ?_⟩ <;> try (exfalso; omega)) | refine ⟨?_, ?_⟩ | intro _ | skip)
  | (refine Is_DQ ?_; first | (apply DQ_m rfl rfl rfl rfl; focus (intro wq_ Oq_ rq_ mm; (repeat (first | (refine G_nil ?_; exact X_done rfl (List.Sublist.refl _)) | refine V_op ?_)); done)) | (apply DQ_k rfl rfl rfl rfl; intro wq_ Oq_ rq_ mm) | (apply DQ_y rfl rfl rfl rfl; intro wq_ Oq_ rq_ mm)))
            refine ret_ rfl (by repeat (first | exact ResAll.nil | (apply ResAll.cons; first | exact .tmp rfl | exact .cell rfl rfl | exact .one rfl))) fun w' h' => ?_
            exact .mkB rfl h'
          | error e2 =>
            haveI : Eqn (opB (B.set ((bs[0]'(by omega)).toNat % B.length) (bs[1]'h1l))) (.error e2) := ⟨hq⟩
            clear hq
            repeat' (first
  | refine G_nilC ?_
  | refine G_nilN ?_
  | refine G_nilH ?_
  | (refine G_nil ?_; try clear ri_; try clear ops_)
  | (refine V_op ?_; first | exact True.intro | (intro v_ h_ w_ r_ t_; try (obtain ⟨ta_, tb_⟩ := (t_ : _ ∧ _)); try (obtain ⟨tb_, tc_⟩ := (tb_ : _ ∧ _)); try (obtain ⟨tc_, td_⟩ := (tc_ : _ ∧ _)); try (obtain ⟨td_, te_⟩ := (td_ : _ ∧ _))) | intro (ops_ : Array Oper) ri_ | intro (b_ : Bool) hb_ | (intro v_ h_; try (have o_ := FrzK.one h_)) | intro (v_ : Value) | intro (b_ : Nat) | (refine ⟨fun hc => ?_, fun hc => ?_⟩ <;> try (exfalso; omega)) | refine ⟨?_, ?_⟩ | intro _ | skip)
  | (refine Is_DQ ?_; first | (apply DQ_m rfl rfl rfl rfl; focus (intro wq_ Oq_ rq_ mm; (repeat (first | (refine G_nil ?_; exact X_done rfl (List.Sublist.refl _)) | refine V_op ?_)); done)) | (apply DQ_k rfl rfl rfl rfl; intro wq_ Oq_ rq_ mm) | (apply DQ_y rfl rfl rfl rfl; intro wq_ Oq_ rq_ mm)))
            refine ret_ rfl (by repeat (first | exact ResAll.nil | (apply ResAll.cons; first | exact .tmp rfl | exact .cell rfl rfl | exact .one rfl))) fun w' h' => ?_
            exact .mkB rfl h'
        | error e =>
          haveI : Eqn (opB bs) (.error e) := ⟨ho⟩
          clear ho
          cases hq : opB (B.set ((bs[0]'(by omega)).toNat % B.length) (bs[1]'h1l)) with
          | ok f2 =>
            haveI : Eqn (opB (B.set ((bs[0]'(by omega)).toNat % B.length) (bs[1]'h1l))) (.ok f2) := ⟨hq⟩
            have hfj := (op_ok hq).1.id
            clear hq
            repeat' (first
  | refine G_nilC ?_
  | refine G_nilN ?_
  | refine G_nilH ?_
  | (refine G_nil ?_; try clear ri_; try clear ops_)
  | (refine V_op ?_; first | exact True.intro | (intro v_ h_ w_ r_ t_; try (obtain ⟨ta_, tb_⟩ := (t_ : _ ∧ _)); try (obtain ⟨tb_, tc_⟩ := (tb_ : _ ∧ _)); try (obtain ⟨tc_, td_⟩ := (tc_ : _ ∧ _)); try (obtain ⟨td_, te_⟩ := (td_ : _ ∧ _))) | intro (ops_ : Array Oper) ri_ | intro (b_ : Bool) hb_ | (intro v_ h_; try (have o_ := FrzK.one h_)) | intro (v_ : Value) | intro (b_ : Nat) | (refine ⟨fun hc => ?_, fun hc => ?_⟩ <;> try (exfalso; omega)) | refine ⟨?_, ?_⟩ | intro _ | skip)
  | (refine Is_DQ ?_; first | (apply DQ_m rfl rfl rfl rfl; focus (intro wq_ Oq_ rq_ mm; (repeat (first | (refine G_nil ?_; exact X_done rfl (List.Sublist.refl _)) | refine V_op ?_)); done)) | (apply DQ_k rfl rfl rfl rfl; intro wq_ Oq_ rq_ mm) | (apply DQ_y rfl rfl rfl rfl; intro wq_ Oq_ rq_ mm)))
            refine ret_ rfl (by repeat (first | exact ResAll.nil | (apply ResAll.cons; first | exact .tmp rfl | exact .cell rfl rfl | exact .one rfl))) fun w' h' => ?_
            exact .mkB rfl h'
          | error e2 =>
            haveI : Eqn (opB (B.set ((bs[0]'(by omega)).toNat % B.length) (bs[1]'h1l))) (.error e2) := ⟨hq⟩
            clear hq
            repeat' (first
  | refine G_nilC ?_
  | refine G_nilN ?_
  | refine G_nilH ?_
  | (refine G_nil ?_; try clear ri_; try clear ops_)
  | (refine V_op ?_; first | exact True.intro | (intro v_ h_ w_ r_ t_; try (obtain ⟨ta_, tb_⟩ := (t_ : _ ∧ _)); try (obtain ⟨tb_, tc_⟩ := (tb_ : _ ∧ _)); try (obtain ⟨tc_, td_⟩ := (tc_ : _ ∧ _)); try (obtain ⟨td_, te_⟩ := (td_ : _ ∧ _))) | intro (ops_ : Array Oper) ri_ | intro (b_ : Bool) hb_ | (intro v_ h_; try (have o_ := FrzK.one h_)) | intro (v_ : Value) | intro (b_ : Nat) | (refine ⟨fun hc => ?_, fun hc => ?_⟩ <;> try (exfalso; omega)) | refine ⟨?_, ?_⟩ | intro _ | skip)
  | (refine Is_DQ ?_; first | (apply DQ_m rfl rfl rfl rfl; focus (intro wq_ Oq_ rq_ mm; (repeat (first | (refine G_nil ?_; exact X_done rfl (List.Sublist.refl _)) | refine V_op ?_)); done)) | (apply DQ_k rfl rfl rfl rfl; intro wq_ Oq_ rq_ mm) | (apply DQ_y rfl rfl rfl rfl; intro wq_ Oq_ rq_ mm)))
            refine ret_ rfl (by repeat (first | exact ResAll.nil | (apply ResAll.cons; first | exact .tmp rfl | exact .cell rfl rfl | exact .one rfl))) fun w' h' => ?_
            exact .mkB rfl h'
      · haveI : Eqn (opB B) (.ok ⟨1 + (kb.toNat : Int) % 9, il.take 40, dl.take 200⟩) := ⟨hop⟩
        cases ho : opB bs with
        | ok f =>
          haveI : Eqn (opB bs) (.ok f) := ⟨ho⟩
          have hfi := (op_ok ho).1.id
          clear ho
          repeat' (first
  | refine G_nilC ?_
  | refine G_nilN ?_
  | refine G_nilH ?_
  | (refine G_nil ?_; try clear ri_; try clear ops_)
  | (refine V_op ?_; first | exact True.intro | (intro v_ h_ w_ r_ t_; try (obtain ⟨ta_, tb_⟩ := (t_ : _ ∧ _)); try (obtain ⟨tb_, tc_⟩ := (tb_ : _ ∧ _)); try (obtain ⟨tc_, td_⟩ := (tc_ : _ ∧ _)); try (obtain ⟨td_, te_⟩ := (td_ : _ ∧ _))) | intro (ops_ : Array Oper) ri_ | intro (b_ : Bool) hb_ | (intro v_ h_; try (have o_ := FrzK.one h_)) | intro (v_ : Value) | intro (b_ : Nat) | (refine ⟨fun hc => ?_, fun hc => ?_⟩ <;> try (exfalso; omega)) | refine ⟨?_, ?_⟩ | intro _ | skip)
  | (refine Is_DQ ?_; first | (apply DQ_m rfl rfl rfl rfl; focus (intro wq_ Oq_ rq_ mm; (repeat (first | (refine G_nil ?_; exact X_done rfl (List.Sublist.refl _)) | refine V_op ?_)); done)) | (apply DQ_k rfl rfl rfl rfl; intro wq_ Oq_ rq_ mm) | (apply DQ_y rfl rfl rfl rfl; intro wq_ Oq_ rq_ mm)))
          refine ret_ rfl (by repeat (first | exact ResAll.nil | (apply ResAll.cons; first | exact .tmp rfl | exact .cell rfl rfl | exact .one rfl))) fun w' h' => ?_
          exact .mkB rfl h'
        | error e =>
          haveI : Eqn (opB bs) (.error e) := ⟨ho⟩
          clear ho
          repeat' (first
  | refine G_nilC ?_
  | refine G_nilN ?_
  | refine G_nilH ?_
  | (refine G_nil ?_; try clear ri_; try clear ops_)
  | (refine V_op ?_; first | exact True.intro | (intro v_ h_ w_ r_ t_; try (obtain ⟨ta_, tb_⟩ := (t_ : _ ∧ _)); try (obtain ⟨tb_, tc_⟩ := (tb_ : _ ∧ _)); try (obtain ⟨tc_, td_⟩ := (tc_ : _ ∧ _)); try (obtain ⟨td_, te_⟩ := (td_ : _ ∧ _))) | intro (ops_ : Array Oper) ri_ | intro (b_ : Bool) hb_ | (intro v_ h_; try (have o_ := FrzK.one h_)) | intro (v_ : Value) | intro (b_ : Nat) | (refine ⟨fun hc => ?_, fun hc => ?_⟩ <;> try (exfalso; omega)) | refine ⟨?_, ?_⟩ | intro _ | skip)
  | (refine Is_DQ ?_; first | (apply DQ_m rfl rfl rfl rfl; focus (intro wq_ Oq_ rq_ mm; (repeat (first | (refine G_nil ?_; exact X_done rfl (List.Sublist.refl _)) | refine V_op ?_)); done)) | (apply DQ_k rfl rfl rfl rfl; intro wq_ Oq_ rq_ mm) | (apply DQ_y rfl rfl rfl rfl; intro wq_ Oq_ rq_ mm)))
          refine ret_ rfl (by repeat (first | exact ResAll.nil | (apply ResAll.cons; first | exact .tmp rfl | exact .cell rfl rfl | exact .one rfl))) fun w' h' => ?_
          exact .mkB rfl h'
  · refine enter (N := 141) (args := [.agg #[I fk, fiv, fdv], .agg #[B8 kb, iv, dv], bv]) Try.func3 rfl rfl rfl (St.refl w) ?_
    repeat' (first
  | refine G_nilC ?_
  | refine G_nilN ?_
  | refine G_nilH ?_
  | (refine G_nil ?_; try clear ri_; try clear ops_)
  | (refine V_op ?_; first | exact True.intro | (intro v_ h_ w_ r_ t_; try (obtain ⟨ta_, tb_⟩ := (t_ : _ ∧ _)); try (obtain ⟨tb_, tc_⟩ := (tb_ : _ ∧ _)); try (obtain ⟨tc_, td_⟩ := (tc_ : _ ∧ _)); try (obtain ⟨td_, te_⟩ := (td_ : _ ∧ _))) | intro (ops_ : Array Oper) ri_ | intro (b_ : Bool) hb_ | (intro v_ h_; try (have o_ := FrzK.one h_)) | intro (v_ : Value) | intro (b_ : Nat) | (refine ⟨fun hc => ?_, fun hc => ?_⟩ <;> try (exfalso; omega)) | refine ⟨?_, ?_⟩ | intro _ | skip)
  | (refine Is_DQ ?_; first | (apply DQ_m rfl rfl rfl rfl; focus (intro wq_ Oq_ rq_ mm; (repeat (first | (refine G_nil ?_; exact X_done rfl (List.Sublist.refl _)) | refine V_op ?_)); done)) | (apply DQ_k rfl rfl rfl rfl; intro wq_ Oq_ rq_ mm) | (apply DQ_y rfl rfl rfl rfl; intro wq_ Oq_ rq_ mm)))
    all_goals
      refine ret_ rfl (by repeat (first | exact ResAll.nil | (apply ResAll.cons; first | exact .tmp rfl | exact .cell rfl rfl | exact .one rfl))) fun w' h' => ?_
      exact .mkB rfl h'
end Go.Proofs.Ytdngfkmigpnbnaa
