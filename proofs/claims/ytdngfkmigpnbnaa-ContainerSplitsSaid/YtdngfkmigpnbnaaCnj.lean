/- Container: Split; equality of what is opened. -/
import Derived.Test.YtdngfkmigpnbnaaCni
set_option linter.unusedVariables false
set_option linter.unusedSimpArgs false
set_option maxRecDepth 100000
set_option maxHeartbeats 4000000
namespace Go.Proofs.Ytdngfkmigpnbnaa
open Go.RowKit
attribute [local irreducible] G GC At wpL DR XPost CPost Cut GA GAR GAX GAt NxA GH GHR NxH
attribute [local irreducible] fiB opB seB

section
variable {w0 : World} {O : List Nat} {m : List As} {v : Value} {bs : List (BitVec 8)} {f : Fl} {n : Nat} {e : Int}
instance [h : RdOld w0 O v bs] [hr : Eqn (opB bs) (.ok f)] : CallD Try.prog w0 O m 20 [v] (bs.length ≤ 900000) (fun _ : V1 × V1 × V1 => True) (fun i => .agg #[I f.k, i.1.v, i.2.1.v, i.2.2.v, I 0]) (fun i w O => RdOld w O i.1.v f.id ∧ RdOld w O i.2.1.v f.da ∧ RdOld w O i.2.2.v ([] : List (BitVec 8))) :=
  ⟨fun hs w hw => ref_OpenIn w0 O m v bs f hr.eq hs w hw⟩
instance [h : RdR w0 O m v bs] [hr : Eqn (opB bs) (.error e)] : CallV Try.prog w0 O m 20 [v] (bs.length ≤ 900000) (.agg #[I 0, .slice none 0 0, .slice none 0 0, .slice none 0 0, I e]) :=
  ⟨fun hs w hw => (@ref_OpenInE w [] [] v bs e (RdOld.of (h.rd w hw)) hr.eq hs w (St.refl w)).mono (by
    rintro y w' ⟨_, _, h1, h2, _⟩
    exact ⟨h1, h2⟩)⟩
instance [h : RdOld w0 O v bs] [hr : Eqn (opB bs) (.ok f)] : CallD Try.prog w0 O m 19 [v] (bs.length ≤ 900000) (fun _ : V1 × V1 => True) (fun i => .agg #[I f.k, i.1.v, i.2.v, .slice none 0 0, I 0]) (fun i w O => RdOld w O i.1.v f.id ∧ RdOld w O i.2.v f.da) :=
  ⟨fun hs w hw => law_opened w0 O m v bs f hs w hw⟩
instance [h : RdR w0 O m v bs] [hr : Eqn (opB bs) (.error e)] : CallV Try.prog w0 O m 19 [v] (bs.length ≤ 900000) (.agg #[I 0, .slice none 0 0, .slice none 0 0, .slice none 0 0, I e]) :=
  ⟨fun hs w hw => (@law_openedE w [] [] v bs e (RdOld.of (h.rd w hw)) hr hs w (St.refl w)).mono (by
    rintro y w' ⟨_, _, h1, h2, _⟩
    exact ⟨h1, h2⟩)⟩
end
theorem law_same (w : World) (k k' e e' : Int) (i d r i' d' r' : Value) (a a' : List Int) (b b' c c' : List (BitVec 8)) [RdOld w [] i a] [RdOld w [] d b] [RdOld w [] r c] [RdOld w [] i' a'] [RdOld w [] d' b'] [RdOld w [] r' c'] (ha : a.length ≤ 100000) (ha' : a'.length ≤ 100000) :
    Calls Try.prog 18 #[.agg #[I k, i, d, r, I e], .agg #[I k', i', d', r', I e']] w (Is w (.bool (decide (e = e' ∧ (k = k' ∧ a = a' ∧ b = b') ∧ c = c')))) := by
  refine enter (N := 24) (args := [.agg #[I k, i, d, r, I e], .agg #[I k', i', d', r', I e']]) Try.func18 rfl rfl rfl (St.refl w) ?_
  repeat' (first
  | refine G_nilC ?_
  | refine G_nilN ?_
  | refine G_nilH ?_
  | (refine G_nil ?_; try clear ri_; try clear ops_)
  | (refine V_op ?_; first | exact True.intro | (intro v_ h_ w_ r_ t_; try (obtain ⟨ta_, tb_⟩ := (t_ : _ ∧ _)); try (obtain ⟨tb_, tc_⟩ := (tb_ : _ ∧ _)); try (obtain ⟨tc_, td_⟩ := (tc_ : _ ∧ _)); try (obtain ⟨td_, te_⟩ := (td_ : _ ∧ _))) | intro (ops_ : Array Oper) ri_ | intro (b_ : Bool) hb_ | (intro v_ h_; try (have o_ := FrzK.one h_)) | intro (v_ : Value) | intro (b_ : Nat) | (refine ⟨fun hc => ?_, fun hc => ?_⟩ <;> try (exfalso; omega)) | refine ⟨?_, ?_⟩ | intro _ | skip)
  | (refine Is_DQ ?_; first | (apply DQ_m rfl rfl rfl rfl; focus (intro wq_ Oq_ rq_ mm; (repeat (first | (refine G_nil ?_; exact X_done rfl (List.Sublist.refl _)) | refine V_op ?_)); done)) | (apply DQ_k rfl rfl rfl rfl; intro wq_ Oq_ rq_ mm) | (apply DQ_y rfl rfl rfl rfl; intro wq_ Oq_ rq_ mm)))
  all_goals
    refine ret_ rfl (by repeat (first | exact ResAll.nil | (apply ResAll.cons; first | exact .tmp rfl | exact .cell rfl rfl | exact .one rfl))) fun w' h' => ?_
    refine .mk ?_ h'
    simp_all [retV]
instance {w0 : World} {O : List Nat} {m : List As} {k k' e e' : Int} {i d r i' d' r' : Value} {a a' : List Int} {b b' c c' : List (BitVec 8)} [h1 : RdR w0 O m i a] [h2 : RdR w0 O m d b] [h3 : RdR w0 O m r c] [h4 : RdR w0 O m i' a'] [h5 : RdR w0 O m d' b'] [h6 : RdR w0 O m r' c'] :
    CallV Try.prog w0 O m 18 [.agg #[.int .i64 k, i, d, r, .int .i64 e], .agg #[.int .i64 k', i', d', r', .int .i64 e']] (a.length ≤ 100000 ∧ a'.length ≤ 100000) (.bool (decide (e = e' ∧ (k = k' ∧ a = a' ∧ b = b') ∧ c = c'))) :=
  ⟨fun hs w hw => @law_same w k k' e e' i d r i' d' r' a a' b b' c c' (RdOld.of (h1.rd w hw)) (RdOld.of (h2.rd w hw)) (RdOld.of (h3.rd w hw)) (RdOld.of (h4.rd w hw)) (RdOld.of (h5.rd w hw)) (RdOld.of (h6.rd w hw)) hs.1 hs.2⟩
/-- the state of splitting: the files' slice, the rest's, the files, the rest -/
structure Spx where
  lv : Value
  bv : V1
  fs : List api_File
  q : List (BitVec 8)
def SpI (bs : List (BitVec 8)) (w : World) (O : List Nat) (x : Spx) : Prop := RdOld w O x.bv.v x.q ∧ TruL w O x.fs ∧ x.fs.length + x.q.length ≤ bs.length ∧ spB bs = (x.fs.map den ++ (spB x.q).1, (spB x.q).2)
theorem run_Split (w0 : World) (O : List Nat) (m : List As) (v : Value) (bs : List (BitVec 8)) [h : RdOld w0 O v bs] (hb : bs.length ≤ 900000) (w : World) (hw : St w0 O m w) :
    Calls Try.prog 28 #[v] w (RetD w0 O m (fun i : V1 × List api_File × V1 => i.2.1.map den = (spB bs).1) (fun i => .tuple #[i.1.v, i.2.2.v]) (fun i w O => RdOld w O i.1.v i.2.1 ∧ TruL w O i.2.1 ∧ RdOld w O i.2.2.v (spB bs).2)) := by
  haveI : One v := h.isOne
  refine enterF (N := 23) (args := [v]) Try.func28 rfl rfl rfl hw ?_
  repeat' (first
  | refine G_nilC ?_
  | refine G_nilN ?_
  | refine G_nilH ?_
  | (refine G_nil ?_; try clear ri_; try clear ops_)
  | (refine V_op ?_; first | exact True.intro | (intro v_ h_ w_ r_ t_; try (obtain ⟨ta_, tb_⟩ := (t_ : _ ∧ _)); try (obtain ⟨tb_, tc_⟩ := (tb_ : _ ∧ _)); try (obtain ⟨tc_, td_⟩ := (tc_ : _ ∧ _)); try (obtain ⟨td_, te_⟩ := (td_ : _ ∧ _))) | intro (ops_ : Array Oper) ri_ | intro (b_ : Bool) hb_ | (intro v_ h_; try (have o_ := FrzK.one h_)) | intro (v_ : Value) | intro (b_ : Nat) | (refine ⟨fun hc => ?_, fun hc => ?_⟩ <;> try (exfalso; omega)) | refine ⟨?_, ?_⟩ | intro _ | skip)
  | (refine Is_DQ ?_; first | (apply DQ_m rfl rfl rfl rfl; focus (intro wq_ Oq_ rq_ mm; (repeat (first | (refine G_nil ?_; exact X_done rfl (List.Sublist.refl _)) | refine V_op ?_)); done)) | (apply DQ_k rfl rfl rfl rfl; intro wq_ Oq_ rq_ mm) | (apply DQ_y rfl rfl rfl rfl; intro wq_ Oq_ rq_ mm)))
  refine GC_loopD (X := Spx) (SpI bs) (fun x s => (4, x.lv) :: (0, x.bv.v) :: s) (fun x r => row x.lv 25 x.fs :: r) (fun x => x.q.length) ⟨.slice none 0 0, ⟨v, One.h⟩, [], bs⟩ (fun w _ => ⟨inferInstance, inferInstance, by simp, by simp⟩) (by repeat (first | exact trivial | refine And.intro rfl ?_)) ?_
  rintro ⟨lv, bv, fs, q⟩ w1 hr1 ⟨h1, h2, h3, h4⟩
  simp only at h1 h2 h3 h4 ⊢
  cases hf : fiB q with
  | error e =>
    have he := fi_err hf
    haveI : Eqn (fiB q) (.error e) := ⟨hf⟩
    rw [sp_err hf] at h4
    simp only [List.append_nil] at h4
    repeat' (first
  | refine G_nilC ?_
  | refine G_nilN ?_
  | refine G_nilH ?_
  | (refine G_nil ?_; try clear ri_; try clear ops_)
  | (refine V_op ?_; first | exact True.intro | (intro v_ h_ w_ r_ t_; try (obtain ⟨ta_, tb_⟩ := (t_ : _ ∧ _)); try (obtain ⟨tb_, tc_⟩ := (tb_ : _ ∧ _)); try (obtain ⟨tc_, td_⟩ := (tc_ : _ ∧ _)); try (obtain ⟨td_, te_⟩ := (td_ : _ ∧ _))) | intro (ops_ : Array Oper) ri_ | intro (b_ : Bool) hb_ | (intro v_ h_; try (have o_ := FrzK.one h_)) | intro (v_ : Value) | intro (b_ : Nat) | (refine ⟨fun hc => ?_, fun hc => ?_⟩ <;> try (exfalso; omega)) | refine ⟨?_, ?_⟩ | intro _ | skip)
  | (refine Is_DQ ?_; first | (apply DQ_m rfl rfl rfl rfl; focus (intro wq_ Oq_ rq_ mm; (repeat (first | (refine G_nil ?_; exact X_done rfl (List.Sublist.refl _)) | refine V_op ?_)); done)) | (apply DQ_k rfl rfl rfl rfl; intro wq_ Oq_ rq_ mm) | (apply DQ_y rfl rfl rfl rfl; intro wq_ Oq_ rq_ mm)))
    (first | refine G_frz lv ?_ | refine GC_frz lv ?_ | refine At_frz lv ?_); intro w_ _ _ _
    refine ret_ rfl (by repeat (first | exact ResAll.nil | (apply ResAll.cons; first | exact .tmp rfl | exact .cell rfl rfl | exact .one rfl))) fun w' h' => ?_
    rw [h4]
    exact RetD.mk (⟨lv, One.h⟩, fs, bv) rfl rfl h' (ht := ⟨inferInstance, inferInstance, inferInstance⟩)
  | ok p =>
    obtain ⟨f, n⟩ := p
    haveI : Eqn (fiB q) (.ok (f, n)) := ⟨hf⟩
    have hl := fi_len hf
    rw [sp_ok hf] at h4
    repeat' (first
  | refine G_nilC ?_
  | refine G_nilN ?_
  | refine G_nilH ?_
  | (refine G_nil ?_; try clear ri_; try clear ops_)
  | (refine V_op ?_; first | exact True.intro | (intro v_ h_ w_ r_ t_; try (obtain ⟨ta_, tb_⟩ := (t_ : _ ∧ _)); try (obtain ⟨tb_, tc_⟩ := (tb_ : _ ∧ _)); try (obtain ⟨tc_, td_⟩ := (tc_ : _ ∧ _)); try (obtain ⟨td_, te_⟩ := (td_ : _ ∧ _))) | intro (ops_ : Array Oper) ri_ | intro (b_ : Bool) hb_ | (intro v_ h_; try (have o_ := FrzK.one h_)) | intro (v_ : Value) | intro (b_ : Nat) | (refine ⟨fun hc => ?_, fun hc => ?_⟩ <;> try (exfalso; omega)) | refine ⟨?_, ?_⟩ | intro _ | skip)
  | (refine Is_DQ ?_; first | (apply DQ_m rfl rfl rfl rfl; focus (intro wq_ Oq_ rq_ mm; (repeat (first | (refine G_nil ?_; exact X_done rfl (List.Sublist.refl _)) | refine V_op ?_)); done)) | (apply DQ_k rfl rfl rfl rfl; intro wq_ Oq_ rq_ mm) | (apply DQ_y rfl rfl rfl rfl; intro wq_ Oq_ rq_ mm)))
    rename_i pv _
    exact At_roundD ⟨v_, pv.2.2, fs ++ [⟨f.k, slOf pv.1.v f.id, slOf pv.2.1.v f.da⟩], q.drop n⟩ (fun w _ => ⟨inferInstance, inferInstance, by simp only [List.length_append, List.length_cons, List.length_nil, List.length_drop]; omega, by rw [h4, List.map_append, List.append_assoc]; rfl⟩) (by simp only [List.length_drop]; omega) (by repeat (first | exact trivial | refine And.intro rfl ?_)) (by repeat (first | exact trivial | refine And.intro rfl ?_))
theorem ref_SplitIn (w0 : World) (O : List Nat) (m : List As) (v : Value) (bs : List (BitVec 8)) [h : RdOld w0 O v bs] (hb : bs.length ≤ 900000) (w : World) (hw : St w0 O m w) :
    Calls Try.prog 17 #[v] w (RetD w0 O m (fun i : V1 × List api_File × V1 => i.2.1.map den = (spB bs).1) (fun i => .agg #[i.1.v, i.2.2.v]) (fun i w O => RdOld w O i.1.v i.2.1 ∧ TruL w O i.2.1 ∧ RdOld w O i.2.2.v (spB bs).2)) := by
  haveI : One v := h.isOne
  refine enterF (N := 24) (args := [v]) Try.func17 rfl rfl rfl hw ?_
  repeat' (first
  | refine G_nilC ?_
  | refine G_nilN ?_
  | refine G_nilH ?_
  | (refine G_nil ?_; try clear ri_; try clear ops_)
  | (refine V_op ?_; first | exact True.intro | (intro v_ h_ w_ r_ t_; try (obtain ⟨ta_, tb_⟩ := (t_ : _ ∧ _)); try (obtain ⟨tb_, tc_⟩ := (tb_ : _ ∧ _)); try (obtain ⟨tc_, td_⟩ := (tc_ : _ ∧ _)); try (obtain ⟨td_, te_⟩ := (td_ : _ ∧ _))) | intro (ops_ : Array Oper) ri_ | intro (b_ : Bool) hb_ | (intro v_ h_; try (have o_ := FrzK.one h_)) | intro (v_ : Value) | intro (b_ : Nat) | (refine ⟨fun hc => ?_, fun hc => ?_⟩ <;> try (exfalso; omega)) | refine ⟨?_, ?_⟩ | intro _ | skip)
  | (refine Is_DQ ?_; first | (apply DQ_m rfl rfl rfl rfl; focus (intro wq_ Oq_ rq_ mm; (repeat (first | (refine G_nil ?_; exact X_done rfl (List.Sublist.refl _)) | refine V_op ?_)); done)) | (apply DQ_k rfl rfl rfl rfl; intro wq_ Oq_ rq_ mm) | (apply DQ_y rfl rfl rfl rfl; intro wq_ Oq_ rq_ mm)))
  refine GC_loopD (X := Spx) (SpI bs) (fun x s => s) (fun x r => row x.lv 25 x.fs :: .box b_ (.cells #[x.lv, x.bv.v] 38) :: r) (fun x => x.q.length) ⟨.slice none 0 0, ⟨v, One.h⟩, [], bs⟩ (fun w _ => ⟨inferInstance, inferInstance, by simp, by simp⟩) (by repeat (first | exact trivial | refine And.intro rfl ?_)) ?_
  rintro ⟨lv, bv, fs, q⟩ w1 hr1 ⟨h1, h2, h3, h4⟩
  simp only at h1 h2 h3 h4 ⊢
  cases hf : fiB q with
  | error e =>
    have he := fi_err hf
    haveI : Eqn (fiB q) (.error e) := ⟨hf⟩
    rw [sp_err hf] at h4
    simp only [List.append_nil] at h4
    repeat' (first
  | refine G_nilC ?_
  | refine G_nilN ?_
  | refine G_nilH ?_
  | (refine G_nil ?_; try clear ri_; try clear ops_)
  | (refine V_op ?_; first | exact True.intro | (intro v_ h_ w_ r_ t_; try (obtain ⟨ta_, tb_⟩ := (t_ : _ ∧ _)); try (obtain ⟨tb_, tc_⟩ := (tb_ : _ ∧ _)); try (obtain ⟨tc_, td_⟩ := (tc_ : _ ∧ _)); try (obtain ⟨td_, te_⟩ := (td_ : _ ∧ _))) | intro (ops_ : Array Oper) ri_ | intro (b_ : Bool) hb_ | (intro v_ h_; try (have o_ := FrzK.one h_)) | intro (v_ : Value) | intro (b_ : Nat) | (refine ⟨fun hc => ?_, fun hc => ?_⟩ <;> try (exfalso; omega)) | refine ⟨?_, ?_⟩ | intro _ | skip)
  | (refine Is_DQ ?_; first | (apply DQ_m rfl rfl rfl rfl; focus (intro wq_ Oq_ rq_ mm; (repeat (first | (refine G_nil ?_; exact X_done rfl (List.Sublist.refl _)) | refine V_op ?_)); done)) | (apply DQ_k rfl rfl rfl rfl; intro wq_ Oq_ rq_ mm) | (apply DQ_y rfl rfl rfl rfl; intro wq_ Oq_ rq_ mm)))
    (first | refine G_frz lv ?_ | refine GC_frz lv ?_ | refine At_frz lv ?_); intro w_ _ _ _
    refine ret_ rfl (by repeat (first | exact ResAll.nil | (apply ResAll.cons; first | exact .tmp rfl | exact .cell rfl rfl | exact .one rfl))) fun w' h' => ?_
    rw [h4]
    exact RetD.mk (⟨lv, One.h⟩, fs, bv) rfl rfl h' (ht := ⟨inferInstance, inferInstance, inferInstance⟩)
  | ok p =>
    obtain ⟨f, n⟩ := p
    haveI : Eqn (fiB q) (.ok (f, n)) := ⟨hf⟩
    have hl := fi_len hf
    rw [sp_ok hf] at h4
    repeat' (first
  | refine G_nilC ?_
  | refine G_nilN ?_
  | refine G_nilH ?_
  | (refine G_nil ?_; try clear ri_; try clear ops_)
  | (refine V_op ?_; first | exact True.intro | (intro v_ h_ w_ r_ t_; try (obtain ⟨ta_, tb_⟩ := (t_ : _ ∧ _)); try (obtain ⟨tb_, tc_⟩ := (tb_ : _ ∧ _)); try (obtain ⟨tc_, td_⟩ := (tc_ : _ ∧ _)); try (obtain ⟨td_, te_⟩ := (td_ : _ ∧ _))) | intro (ops_ : Array Oper) ri_ | intro (b_ : Bool) hb_ | (intro v_ h_; try (have o_ := FrzK.one h_)) | intro (v_ : Value) | intro (b_ : Nat) | (refine ⟨fun hc => ?_, fun hc => ?_⟩ <;> try (exfalso; omega)) | refine ⟨?_, ?_⟩ | intro _ | skip)
  | (refine Is_DQ ?_; first | (apply DQ_m rfl rfl rfl rfl; focus (intro wq_ Oq_ rq_ mm; (repeat (first | (refine G_nil ?_; exact X_done rfl (List.Sublist.refl _)) | refine V_op ?_)); done)) | (apply DQ_k rfl rfl rfl rfl; intro wq_ Oq_ rq_ mm) | (apply DQ_y rfl rfl rfl rfl; intro wq_ Oq_ rq_ mm)))
    rename_i pv _
    exact At_roundD ⟨v_, pv.2.2, fs ++ [⟨f.k, slOf pv.1.v f.id, slOf pv.2.1.v f.da⟩], q.drop n⟩ (fun w _ => ⟨inferInstance, inferInstance, by simp only [List.length_append, List.length_cons, List.length_nil, List.length_drop]; omega, by rw [h4, List.map_append, List.append_assoc]; rfl⟩) (by simp only [List.length_drop]; omega) (by repeat (first | exact trivial | refine And.intro rfl ?_)) (by repeat (first | exact trivial | refine And.intro rfl ?_))
section
variable {w0 : World} {O : List Nat} {m : List As} {v : Value} {bs : List (BitVec 8)} {fs : List Fl} {r : List (BitVec 8)}
instance [h : RdOld w0 O v bs] [hr : Eqn (spB bs) (fs, r)] : CallD Try.prog w0 O m 28 [v] (bs.length ≤ 900000) (fun i : V1 × List api_File × V1 => DenF i.2.1 fs) (fun i => .tuple #[i.1.v, i.2.2.v]) (fun i w O => RdOld w O i.1.v i.2.1 ∧ TruL w O i.2.1 ∧ RdOld w O i.2.2.v r) :=
  ⟨fun hs w hw => by
    have := run_Split w0 O m v bs hs w hw
    rw [hr.eq] at this
    exact this.mono (by
      rintro y w' ⟨i, h1, h2⟩
      exact ⟨i, ⟨h1⟩, h2⟩)⟩
instance [h : RdOld w0 O v bs] [hr : Eqn (spB bs) (fs, r)] : CallD Try.prog w0 O m 17 [v] (bs.length ≤ 900000) (fun i : V1 × List api_File × V1 => DenF i.2.1 fs) (fun i => .agg #[i.1.v, i.2.2.v]) (fun i w O => RdOld w O i.1.v i.2.1 ∧ TruL w O i.2.1 ∧ RdOld w O i.2.2.v r) :=
  ⟨fun hs w hw => by
    have := ref_SplitIn w0 O m v bs hs w hw
    rw [hr.eq] at this
    exact this.mono (by
      rintro y w' ⟨i, h1, h2⟩
      exact ⟨i, ⟨h1⟩, h2⟩)⟩
end
theorem law_split (w0 : World) (O : List Nat) (m : List As) (v : Value) (bs : List (BitVec 8)) (fs : List Fl) (r : List (BitVec 8)) [h : RdOld w0 O v bs] [hr : Eqn (spB bs) (fs, r)] (hb : bs.length ≤ 900000) (w : World) (hw : St w0 O m w) :
    Calls Try.prog 16 #[v] w (RetD w0 O m (fun i : V1 × List api_File × V1 => DenF i.2.1 fs) (fun i => .agg #[i.1.v, i.2.2.v]) (fun i w O => RdOld w O i.1.v i.2.1 ∧ TruL w O i.2.1 ∧ RdOld w O i.2.2.v r)) := by
  haveI : One v := h.isOne
  refine enterF (N := 13) (args := [v]) Try.func16 rfl rfl rfl hw ?_
  repeat' (first
  | refine G_nilC ?_
  | refine G_nilN ?_
  | refine G_nilH ?_
  | (refine G_nil ?_; try clear ri_; try clear ops_)
  | (refine V_op ?_; first | exact True.intro | (intro v_ h_ w_ r_ t_; try (obtain ⟨ta_, tb_⟩ := (t_ : _ ∧ _)); try (obtain ⟨tb_, tc_⟩ := (tb_ : _ ∧ _)); try (obtain ⟨tc_, td_⟩ := (tc_ : _ ∧ _)); try (obtain ⟨td_, te_⟩ := (td_ : _ ∧ _))) | intro (ops_ : Array Oper) ri_ | intro (b_ : Bool) hb_ | (intro v_ h_; try (have o_ := FrzK.one h_)) | intro (v_ : Value) | intro (b_ : Nat) | (refine ⟨fun hc => ?_, fun hc => ?_⟩ <;> try (exfalso; omega)) | refine ⟨?_, ?_⟩ | intro _ | skip)
  | (refine Is_DQ ?_; first | (apply DQ_m rfl rfl rfl rfl; focus (intro wq_ Oq_ rq_ mm; (repeat (first | (refine G_nil ?_; exact X_done rfl (List.Sublist.refl _)) | refine V_op ?_)); done)) | (apply DQ_k rfl rfl rfl rfl; intro wq_ Oq_ rq_ mm) | (apply DQ_y rfl rfl rfl rfl; intro wq_ Oq_ rq_ mm)))
  refine ret_ rfl (by repeat (first | exact ResAll.nil | (apply ResAll.cons; first | exact .tmp rfl | exact .cell rfl rfl | exact .one rfl))) fun w' h' => ?_
  exact RetD.mk v_ h_ rfl h' (ht := ⟨inferInstance, inferInstance, inferInstance⟩)
instance {w0 : World} {O : List Nat} {m : List As} {v : Value} {bs : List (BitVec 8)} {fs : List Fl} {r : List (BitVec 8)} [h : RdOld w0 O v bs] [hr : Eqn (spB bs) (fs, r)] : CallD Try.prog w0 O m 16 [v] (bs.length ≤ 900000) (fun i : V1 × List api_File × V1 => DenF i.2.1 fs) (fun i => .agg #[i.1.v, i.2.2.v]) (fun i w O => RdOld w O i.1.v i.2.1 ∧ TruL w O i.2.1 ∧ RdOld w O i.2.2.v r) :=
  ⟨fun hs w hw => law_split w0 O m v bs fs r hs w hw⟩
end Go.Proofs.Ytdngfkmigpnbnaa
