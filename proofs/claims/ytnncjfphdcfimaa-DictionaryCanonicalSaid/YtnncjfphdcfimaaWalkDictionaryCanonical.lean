/- The walk of DictionaryCanonical. -/
import Derived.Test.YtnncjfphdcfimaaDcl
set_option linter.unusedVariables false
set_option linter.unusedSimpArgs false
set_option maxRecDepth 100000
set_option maxHeartbeats 4000000
namespace Go.Proofs.Ytnncjfphdcfimaa
open Go.RowKit
attribute [local irreducible] G GC At wpL DR XPost CPost Cut GA GAR GAX GAt NxA GH GHR NxH
attribute [local irreducible] ofD srtL cmpL

theorem wd_va {xs : List (BitVec 8)} : VaD (ofD (wdL xs)) := va_iff.2 ⟨ofD_dic _, fun s hs => wdL_len xs s (ofD_mem.1 hs), by have := ofD_length (wdL xs); have := wdL_length xs; omega⟩
theorem walk_DictionaryCanonical (w : World) (a0 : Sl (BitVec 8)) (g0 : Rng.rng a0) [t0 : Tru w [] a0] :
    Calls Try.prog 5 #[a0.v] w (Is w (.bool true)) := by
  obtain ⟨v0, bs, o0⟩ := a0
  haveI h0 : RdOld w [] v0 bs := rdOld_tru (x := ⟨v0, bs, o0⟩)
  have hbl := h0.rd.len_le
  clear g0 t0
  show Calls Try.prog 5 #[v0] w (Is w (.bool true))
  by_cases hr : bs.length ≤ 400
  · cases hu : (unD bs).2 with
    | error e =>
      have he := un_err (l := (unD bs).1) (Prod.ext rfl hu)
      have hx := uX (l := (unD bs).1) (Prod.ext rfl hu)
      haveI : Eqn (uD bs) [] := ⟨hx.1⟩
      haveI : Eqn (uR bs) [] := ⟨hx.2.1⟩
      haveI : Eqn (uE bs) e := ⟨hx.2.2⟩
      clear hx hu
      refine enter (N := 68) (args := [v0]) Try.func5 rfl rfl rfl (St.refl w) ?_
      repeat' (first
  | refine G_nilC ?_
  | refine G_nilN ?_
  | refine G_nilH ?_
  | (refine G_nil ?_; try clear ri_; try clear ops_)
  | (refine V_op ?_; first | exact True.intro | (intro v_ h_ w_ r_ t_; try (obtain ⟨ta_, tb_⟩ := (t_ : _ ∧ _)); try (obtain ⟨tb_, tc_⟩ := (tb_ : _ ∧ _)); try (obtain ⟨tc_, td_⟩ := (tc_ : _ ∧ _)); try (obtain ⟨td_, te_⟩ := (td_ : _ ∧ _))) | intro (ops_ : Array Oper) ri_ | intro (b_ : Bool) hb_ | (intro v_ h_; try (have o_ := FrzK.one h_)) | intro (v_ : Value) | intro (b_ : Nat) | (refine ⟨fun hc => ?_, fun hc => ?_⟩ <;> try (exfalso; omega)) | refine ⟨?_, ?_⟩ | intro _ | skip)
  | (refine Is_DQ ?_; first | (apply DQ_m rfl rfl rfl rfl; focus (intro wq_ Oq_ rq_ mm; (repeat (first | (refine G_nil ?_; exact X_done rfl (List.Sublist.refl _)) | refine V_op ?_)); done)) | (apply DQ_k rfl rfl rfl rfl; intro wq_ Oq_ rq_ mm) | (apply DQ_y rfl rfl rfl rfl; intro wq_ Oq_ rq_ mm)))
      all_goals
        refine ret_ rfl (by repeat (first | exact ResAll.nil | (apply ResAll.cons; first | exact .tmp rfl | exact .cell rfl rfl | exact .one rfl))) fun w' h' => ?_
        exact .mk rfl h'
    | ok q =>
      obtain ⟨hv, hc⟩ := un_canon (bs := bs) (d := (unD bs).1) (r := q) (Prod.ext rfl hu)
      generalize hD : (unD bs).1 = d at *
      have hx : uD bs = d ∧ uR bs = q ∧ uE bs = 0 := by
        rw [← hc]; exact uP hv q
      haveI : Eqn (uD bs) d := ⟨hx.1⟩
      haveI : Eqn (uR bs) q := ⟨hx.2.1⟩
      haveI : Eqn (uE bs) 0 := ⟨hx.2.2⟩
      have hp := pa_ok hv
      haveI : Yes (VaD d) := ⟨hv⟩
      haveI : Eqn (paE d) 0 := ⟨hp.1⟩
      haveI : Eqn (paR d) (pkD d) := ⟨hp.2⟩
      have hcl := congrArg List.length hc
      generalize hB : pkD d = B at *
      rw [List.length_append] at hcl
      haveI : Yes (B ++ q = bs) := ⟨hc⟩
      clear hx hu hp hB
      refine enter (N := 68) (args := [v0]) Try.func5 rfl rfl rfl (St.refl w) ?_
      repeat' (first
  | refine G_nilC ?_
  | refine G_nilN ?_
  | refine G_nilH ?_
  | (refine G_nil ?_; try clear ri_; try clear ops_)
  | (refine V_op ?_; first | exact True.intro | (intro v_ h_ w_ r_ t_; try (obtain ⟨ta_, tb_⟩ := (t_ : _ ∧ _)); try (obtain ⟨tb_, tc_⟩ := (tb_ : _ ∧ _)); try (obtain ⟨tc_, td_⟩ := (tc_ : _ ∧ _)); try (obtain ⟨td_, te_⟩ := (td_ : _ ∧ _))) | intro (ops_ : Array Oper) ri_ | intro (b_ : Bool) hb_ | (intro v_ h_; try (have o_ := FrzK.one h_)) | intro (v_ : Value) | intro (b_ : Nat) | (refine ⟨fun hc => ?_, fun hc => ?_⟩ <;> try (exfalso; omega)) | refine ⟨?_, ?_⟩ | intro _ | skip)
  | (refine Is_DQ ?_; first | (apply DQ_m rfl rfl rfl rfl; focus (intro wq_ Oq_ rq_ mm; (repeat (first | (refine G_nil ?_; exact X_done rfl (List.Sublist.refl _)) | refine V_op ?_)); done)) | (apply DQ_k rfl rfl rfl rfl; intro wq_ Oq_ rq_ mm) | (apply DQ_y rfl rfl rfl rfl; intro wq_ Oq_ rq_ mm)))
      all_goals
        refine ret_ rfl (by repeat (first | exact ResAll.nil | (apply ResAll.cons; first | exact .tmp rfl | exact .cell rfl rfl | exact .one rfl))) fun w' h' => ?_
        exact .mk rfl h'
  · refine enter (N := 68) (args := [v0]) Try.func5 rfl rfl rfl (St.refl w) ?_
    repeat' (first
  | refine G_nilC ?_
  | refine G_nilN ?_
  | refine G_nilH ?_
  | (refine G_nil ?_; try clear ri_; try clear ops_)
  | (refine V_op ?_; first | exact True.intro | (intro v_ h_ w_ r_ t_; try (obtain ⟨ta_, tb_⟩ := (t_ : _ ∧ _)); try (obtain ⟨tb_, tc_⟩ := (tb_ : _ ∧ _)); try (obtain ⟨tc_, td_⟩ := (tc_ : _ ∧ _)); try (obtain ⟨td_, te_⟩ := (td_ : _ ∧ _))) | intro (ops_ : Array Oper) ri_ | intro (b_ : Bool) hb_ | (intro v_ h_; try (have o_ := FrzK.one h_)) | intro (v_ : Value) | intro (b_ : Nat) | (refine ⟨fun hc => ?_, fun hc => ?_⟩ <;> try (exfalso; omega)) | refine ⟨?_, ?_⟩ | intro _ | skip)
  | (refine Is_DQ ?_; first | (apply DQ_m rfl rfl rfl rfl; focus (intro wq_ Oq_ rq_ mm; (repeat (first | (refine G_nil ?_; exact X_done rfl (List.Sublist.refl _)) | refine V_op ?_)); done)) | (apply DQ_k rfl rfl rfl rfl; intro wq_ Oq_ rq_ mm) | (apply DQ_y rfl rfl rfl rfl; intro wq_ Oq_ rq_ mm)))
    all_goals
      refine ret_ rfl (by repeat (first | exact ResAll.nil | (apply ResAll.cons; first | exact .tmp rfl | exact .cell rfl rfl | exact .one rfl))) fun w' h' => ?_
      exact .mk rfl h'
end Go.Proofs.Ytnncjfphdcfimaa
