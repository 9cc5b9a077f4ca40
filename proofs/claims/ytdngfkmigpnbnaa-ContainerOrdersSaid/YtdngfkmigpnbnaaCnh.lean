/- Container: Open; the reference's reading. -/
import Derived.Test.YtdngfkmigpnbnaaCng
set_option linter.unusedVariables false
set_option linter.unusedSimpArgs false
set_option maxRecDepth 100000
set_option maxHeartbeats 4000000
namespace Go.Proofs.Ytdngfkmigpnbnaa
open Go.RowKit
attribute [local irreducible] G GC At wpL DR XPost CPost Cut GA GAR GAX GAt NxA GH GHR NxH
attribute [local irreducible] unpB rdB sumB ltB packB seB

/-- a value of one cell -/
structure V1 where
  v : Value
  one : v.oneCell' = true
instance one_v1 (x : V1) : One x.v := ⟨x.one⟩
section
variable {w0 : World} {O : List Nat} {m : List As} {v : Value} {bs : List (BitVec 8)} {f : Fl} {n : Nat} {e : Int}
instance [h : RdOld w0 O v bs] [hr : Eqn (fiB bs) (.ok (f, n))] : CallD Try.prog w0 O m 40 [v] (bs.length ≤ 900000) (fun _ : V1 × V1 × V1 => True) (fun i => .tuple #[.agg #[I f.k, i.1.v, i.2.1.v], i.2.2.v, I 0]) (fun i w O => RdOld w O i.1.v f.id ∧ RdOld w O i.2.1.v f.da ∧ RdOld w O i.2.2.v (bs.drop n)) :=
  ⟨fun hs w hw => (run_first w0 O m v bs f n hs w hw).mono (by
    rintro y w' ⟨i, hi, h1, h2, h3, h4, h5⟩
    exact ⟨(⟨i.1, h3.isOne.h⟩, ⟨i.2.1, h4.isOne.h⟩, ⟨i.2.2, h5.isOne.h⟩), trivial, h1, h2, h3, h4, h5⟩)⟩
instance [h : RdR w0 O m v bs] [hr : Eqn (fiB bs) (.error e)] : CallV Try.prog w0 O m 40 [v] (bs.length ≤ 900000) (.tuple #[.agg #[I 0, .slice none 0 0, .slice none 0 0], .slice none 0 0, I e]) :=
  ⟨fun hs w hw => @run_firstE w [] [] v bs e (RdOld.of (h.rd w hw)) hr hs w (St.refl w)⟩
end
/-- a file of its own -/
def opB (bs : List (BitVec 8)) : Except Int Fl := match fiB bs with
  | .error e => .error e
  | .ok (f, n) => if n < bs.length then .error 8 else .ok f
theorem run_Open (w0 : World) (O : List Nat) (m : List As) (v : Value) (bs : List (BitVec 8)) (f : Fl) [h : RdOld w0 O v bs] (hr : opB bs = .ok f) (hb : bs.length ≤ 900000) (w : World) (hw : St w0 O m w) :
    Calls Try.prog 31 #[v] w (RetD w0 O m (fun _ : V1 × V1 => True) (fun i => .tuple #[.agg #[I f.k, i.1.v, i.2.v], I 0]) (fun i w O => RdOld w O i.1.v f.id ∧ RdOld w O i.2.v f.da)) := by
  haveI : One v := h.isOne
  rw [opB] at hr
  split at hr
  · cases hr
  · rename_i f1 n hf
    split at hr
    · cases hr
    · rename_i hn
      simp only [Except.ok.injEq] at hr
      subst hr
      haveI : Eqn (fiB bs) (.ok (f1, n)) := ⟨hf⟩
      have hl := (fi_len hf).2
      have hdl : (bs.drop n).length = bs.length - n := List.length_drop
      refine enterF (N := 25) (args := [v]) Try.func31 rfl rfl rfl hw ?_
      repeat' (first
  | refine G_nilC ?_
  | refine G_nilN ?_
  | refine G_nilH ?_
  | (refine G_nil ?_; try clear ri_; try clear ops_)
  | (refine V_op ?_; first | exact True.intro | (intro v_ h_ w_ r_ t_; try (obtain ⟨ta_, tb_⟩ := (t_ : _ ∧ _)); try (obtain ⟨tb_, tc_⟩ := (tb_ : _ ∧ _)); try (obtain ⟨tc_, td_⟩ := (tc_ : _ ∧ _)); try (obtain ⟨td_, te_⟩ := (td_ : _ ∧ _))) | intro (ops_ : Array Oper) ri_ | intro (b_ : Bool) hb_ | (intro v_ h_; try (have o_ := FrzK.one h_)) | intro (v_ : Value) | intro (b_ : Nat) | (refine ⟨fun hc => ?_, fun hc => ?_⟩ <;> try (exfalso; omega)) | refine ⟨?_, ?_⟩ | intro _ | skip)
  | (refine Is_DQ ?_; first | (apply DQ_m rfl rfl rfl rfl; focus (intro wq_ Oq_ rq_ mm; (repeat (first | (refine G_nil ?_; exact X_done rfl (List.Sublist.refl _)) | refine V_op ?_)); done)) | (apply DQ_k rfl rfl rfl rfl; intro wq_ Oq_ rq_ mm) | (apply DQ_y rfl rfl rfl rfl; intro wq_ Oq_ rq_ mm)))
      refine ret_ rfl (by repeat (first | exact ResAll.nil | (apply ResAll.cons; first | exact .tmp rfl | exact .cell rfl rfl | exact .one rfl))) fun w' h' => ?_
      exact RetD.mk (v_.1, v_.2.1) trivial rfl h' (ht := ⟨inferInstance, inferInstance⟩)
theorem run_OpenE (w0 : World) (O : List Nat) (m : List As) (v : Value) (bs : List (BitVec 8)) (e : Int) [h : RdOld w0 O v bs] (hr : opB bs = .error e) (hb : bs.length ≤ 900000) (w : World) (hw : St w0 O m w) :
    Calls Try.prog 31 #[v] w (RetD w0 O m (fun _ : Unit => True) (fun _ => .tuple #[.agg #[I 0, .slice none 0 0, .slice none 0 0], I e]) (fun _ _ _ => True)) := by
  haveI : One v := h.isOne
  rw [opB] at hr
  split at hr
  · rename_i e1 hf
    simp only [Except.error.injEq] at hr
    subst hr
    have he := fi_err hf
    haveI : Eqn (fiB bs) (.error e1) := ⟨hf⟩
    refine enterF (N := 25) (args := [v]) Try.func31 rfl rfl rfl hw ?_
    repeat' (first
  | refine G_nilC ?_
  | refine G_nilN ?_
  | refine G_nilH ?_
  | (refine G_nil ?_; try clear ri_; try clear ops_)
  | (refine V_op ?_; first | exact True.intro | (intro v_ h_ w_ r_ t_; try (obtain ⟨ta_, tb_⟩ := (t_ : _ ∧ _)); try (obtain ⟨tb_, tc_⟩ := (tb_ : _ ∧ _)); try (obtain ⟨tc_, td_⟩ := (tc_ : _ ∧ _)); try (obtain ⟨td_, te_⟩ := (td_ : _ ∧ _))) | intro (ops_ : Array Oper) ri_ | intro (b_ : Bool) hb_ | (intro v_ h_; try (have o_ := FrzK.one h_)) | intro (v_ : Value) | intro (b_ : Nat) | (refine ⟨fun hc => ?_, fun hc => ?_⟩ <;> try (exfalso; omega)) | refine ⟨?_, ?_⟩ | intro _ | skip)
  | (refine Is_DQ ?_; first | (apply DQ_m rfl rfl rfl rfl; focus (intro wq_ Oq_ rq_ mm; (repeat (first | (refine G_nil ?_; exact X_done rfl (List.Sublist.refl _)) | refine V_op ?_)); done)) | (apply DQ_k rfl rfl rfl rfl; intro wq_ Oq_ rq_ mm) | (apply DQ_y rfl rfl rfl rfl; intro wq_ Oq_ rq_ mm)))
    refine ret_ rfl (by repeat (first | exact ResAll.nil | (apply ResAll.cons; first | exact .tmp rfl | exact .cell rfl rfl | exact .one rfl))) fun w' h' => ?_
    exact RetD.mk () trivial rfl h' (ht := trivial)
  · rename_i f1 n hf
    split at hr
    · rename_i hn
      simp only [Except.error.injEq] at hr
      subst hr
      haveI : Eqn (fiB bs) (.ok (f1, n)) := ⟨hf⟩
      have hl := (fi_len hf).2
      have hdl : (bs.drop n).length = bs.length - n := List.length_drop
      refine enterF (N := 25) (args := [v]) Try.func31 rfl rfl rfl hw ?_
      repeat' (first
  | refine G_nilC ?_
  | refine G_nilN ?_
  | refine G_nilH ?_
  | (refine G_nil ?_; try clear ri_; try clear ops_)
  | (refine V_op ?_; first | exact True.intro | (intro v_ h_ w_ r_ t_; try (obtain ⟨ta_, tb_⟩ := (t_ : _ ∧ _)); try (obtain ⟨tb_, tc_⟩ := (tb_ : _ ∧ _)); try (obtain ⟨tc_, td_⟩ := (tc_ : _ ∧ _)); try (obtain ⟨td_, te_⟩ := (td_ : _ ∧ _))) | intro (ops_ : Array Oper) ri_ | intro (b_ : Bool) hb_ | (intro v_ h_; try (have o_ := FrzK.one h_)) | intro (v_ : Value) | intro (b_ : Nat) | (refine ⟨fun hc => ?_, fun hc => ?_⟩ <;> try (exfalso; omega)) | refine ⟨?_, ?_⟩ | intro _ | skip)
  | (refine Is_DQ ?_; first | (apply DQ_m rfl rfl rfl rfl; focus (intro wq_ Oq_ rq_ mm; (repeat (first | (refine G_nil ?_; exact X_done rfl (List.Sublist.refl _)) | refine V_op ?_)); done)) | (apply DQ_k rfl rfl rfl rfl; intro wq_ Oq_ rq_ mm) | (apply DQ_y rfl rfl rfl rfl; intro wq_ Oq_ rq_ mm)))
      refine ret_ rfl (by repeat (first | exact ResAll.nil | (apply ResAll.cons; first | exact .tmp rfl | exact .cell rfl rfl | exact .one rfl))) fun w' h' => ?_
      exact RetD.mk () trivial rfl h' (ht := trivial)
    · cases hr
section
variable {w0 : World} {O : List Nat} {m : List As} {v : Value} {bs : List (BitVec 8)} {f : Fl} {n : Nat} {e : Int}
instance [h : RdOld w0 O v bs] [hr : Eqn (opB bs) (.ok f)] : CallD Try.prog w0 O m 31 [v] (bs.length ≤ 900000) (fun _ : V1 × V1 => True) (fun i => .tuple #[.agg #[I f.k, i.1.v, i.2.v], I 0]) (fun i w O => RdOld w O i.1.v f.id ∧ RdOld w O i.2.v f.da) :=
  ⟨fun hs w hw => run_Open w0 O m v bs f hr.eq hs w hw⟩
instance [h : RdOld w0 O v bs] [hr : Eqn (opB bs) (.error e)] : CallD Try.prog w0 O m 31 [v] (bs.length ≤ 900000) (fun _ : Unit => True) (fun _ => .tuple #[.agg #[I 0, .slice none 0 0, .slice none 0 0], I e]) (fun _ _ _ => True) :=
  ⟨fun hs w hw => run_OpenE w0 O m v bs e hr.eq hs w hw⟩
end
theorem law_opened (w0 : World) (O : List Nat) (m : List As) (v : Value) (bs : List (BitVec 8)) (f : Fl) [h : RdOld w0 O v bs] [hr : Eqn (opB bs) (.ok f)] (hb : bs.length ≤ 900000) (w : World) (hw : St w0 O m w) :
    Calls Try.prog 19 #[v] w (RetD w0 O m (fun _ : V1 × V1 => True) (fun i => .agg #[I f.k, i.1.v, i.2.v, .slice none 0 0, I 0]) (fun i w O => RdOld w O i.1.v f.id ∧ RdOld w O i.2.v f.da)) := by
  haveI : One v := h.isOne
  refine enterF (N := 13) (args := [v]) Try.func19 rfl rfl rfl hw ?_
  repeat' (first
  | refine G_nilC ?_
  | refine G_nilN ?_
  | refine G_nilH ?_
  | (refine G_nil ?_; try clear ri_; try clear ops_)
  | (refine V_op ?_; first | exact True.intro | (intro v_ h_ w_ r_ t_; try (obtain ⟨ta_, tb_⟩ := (t_ : _ ∧ _)); try (obtain ⟨tb_, tc_⟩ := (tb_ : _ ∧ _)); try (obtain ⟨tc_, td_⟩ := (tc_ : _ ∧ _)); try (obtain ⟨td_, te_⟩ := (td_ : _ ∧ _))) | intro (ops_ : Array Oper) ri_ | intro (b_ : Bool) hb_ | (intro v_ h_; try (have o_ := FrzK.one h_)) | intro (v_ : Value) | intro (b_ : Nat) | (refine ⟨fun hc => ?_, fun hc => ?_⟩ <;> try (exfalso; omega)) | refine ⟨?_, ?_⟩ | intro _ | skip)
  | (refine Is_DQ ?_; first | (apply DQ_m rfl rfl rfl rfl; focus (intro wq_ Oq_ rq_ mm; (repeat (first | (refine G_nil ?_; exact X_done rfl (List.Sublist.refl _)) | refine V_op ?_)); done)) | (apply DQ_k rfl rfl rfl rfl; intro wq_ Oq_ rq_ mm) | (apply DQ_y rfl rfl rfl rfl; intro wq_ Oq_ rq_ mm)))
  refine ret_ rfl (by repeat (first | exact ResAll.nil | (apply ResAll.cons; first | exact .tmp rfl | exact .cell rfl rfl | exact .one rfl))) fun w' h' => ?_
  exact RetD.mk v_ trivial rfl h' (ht := ⟨inferInstance, inferInstance⟩)
theorem law_openedE (w0 : World) (O : List Nat) (m : List As) (v : Value) (bs : List (BitVec 8)) (e : Int) [h : RdOld w0 O v bs] [hr : Eqn (opB bs) (.error e)] (hb : bs.length ≤ 900000) (w : World) (hw : St w0 O m w) :
    Calls Try.prog 19 #[v] w (RetD w0 O m (fun _ : Unit => True) (fun _ => .agg #[I 0, .slice none 0 0, .slice none 0 0, .slice none 0 0, I e]) (fun _ _ _ => True)) := by
  haveI : One v := h.isOne
  refine enterF (N := 13) (args := [v]) Try.func19 rfl rfl rfl hw ?_
  repeat' (first
  | refine G_nilC ?_
  | refine G_nilN ?_
  | refine G_nilH ?_
  | (refine G_nil ?_; try clear ri_; try clear ops_)
  | (refine V_op ?_; first | exact True.intro | (intro v_ h_ w_ r_ t_; try (obtain ⟨ta_, tb_⟩ := (t_ : _ ∧ _)); try (obtain ⟨tb_, tc_⟩ := (tb_ : _ ∧ _)); try (obtain ⟨tc_, td_⟩ := (tc_ : _ ∧ _)); try (obtain ⟨td_, te_⟩ := (td_ : _ ∧ _))) | intro (ops_ : Array Oper) ri_ | intro (b_ : Bool) hb_ | (intro v_ h_; try (have o_ := FrzK.one h_)) | intro (v_ : Value) | intro (b_ : Nat) | (refine ⟨fun hc => ?_, fun hc => ?_⟩ <;> try (exfalso; omega)) | refine ⟨?_, ?_⟩ | intro _ | skip)
  | (refine Is_DQ ?_; first | (apply DQ_m rfl rfl rfl rfl; focus (intro wq_ Oq_ rq_ mm; (repeat (first | (refine G_nil ?_; exact X_done rfl (List.Sublist.refl _)) | refine V_op ?_)); done)) | (apply DQ_k rfl rfl rfl rfl; intro wq_ Oq_ rq_ mm) | (apply DQ_y rfl rfl rfl rfl; intro wq_ Oq_ rq_ mm)))
  refine ret_ rfl (by repeat (first | exact ResAll.nil | (apply ResAll.cons; first | exact .tmp rfl | exact .cell rfl rfl | exact .one rfl))) fun w' h' => ?_
  exact RetD.mk () trivial rfl h' (ht := trivial)
theorem ref_rot (w : World) (e : Int) : Calls Try.prog 42 #[I e] w (Is w (I (rotE e))) := by
  refine enter (N := 6) (args := [I e]) Try.func42 rfl rfl rfl (St.refl w) ?_
  repeat' (first
  | refine G_nilC ?_
  | refine G_nilN ?_
  | refine G_nilH ?_
  | (refine G_nil ?_; try clear ri_; try clear ops_)
  | (refine V_op ?_; first | exact True.intro | (intro v_ h_ w_ r_ t_; try (obtain ⟨ta_, tb_⟩ := (t_ : _ ∧ _)); try (obtain ⟨tb_, tc_⟩ := (tb_ : _ ∧ _)); try (obtain ⟨tc_, td_⟩ := (tc_ : _ ∧ _)); try (obtain ⟨td_, te_⟩ := (td_ : _ ∧ _))) | intro (ops_ : Array Oper) ri_ | intro (b_ : Bool) hb_ | (intro v_ h_; try (have o_ := FrzK.one h_)) | intro (v_ : Value) | intro (b_ : Nat) | (refine ⟨fun hc => ?_, fun hc => ?_⟩ <;> try (exfalso; omega)) | refine ⟨?_, ?_⟩ | intro _ | skip)
  | (refine Is_DQ ?_; first | (apply DQ_m rfl rfl rfl rfl; focus (intro wq_ Oq_ rq_ mm; (repeat (first | (refine G_nil ?_; exact X_done rfl (List.Sublist.refl _)) | refine V_op ?_)); done)) | (apply DQ_k rfl rfl rfl rfl; intro wq_ Oq_ rq_ mm) | (apply DQ_y rfl rfl rfl rfl; intro wq_ Oq_ rq_ mm)))
  · refine ret_ rfl (by repeat (first | exact ResAll.nil | (apply ResAll.cons; first | exact .tmp rfl | exact .cell rfl rfl | exact .one rfl))) fun w' h' => ?_
    exact .mk (by rw [rotE, if_pos hc, ← hc]) h'
  · refine ret_ rfl (by repeat (first | exact ResAll.nil | (apply ResAll.cons; first | exact .tmp rfl | exact .cell rfl rfl | exact .one rfl))) fun w' h' => ?_
    exact .mk (by rw [rotE, if_neg hc]) h'
instance {w0 : World} {O : List Nat} {m : List As} (e : Int) : CallV Try.prog w0 O m 42 [.int .i64 e] True (I (rotE e)) := ⟨fun _ w _ => ref_rot w e⟩
end Go.Proofs.Ytdngfkmigpnbnaa
