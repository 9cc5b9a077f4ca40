/- The walk of DictionaryRoundTrip. -/
import Derived.Test.YtnncjfphdcfimaaDcl
set_option linter.unusedVariables false
set_option linter.unusedSimpArgs false
set_option maxRecDepth 100000
set_option maxHeartbeats 4000000
namespace Go.Proofs.Ytnncjfphdcfimaa
open Go.RowKit
attribute [local irreducible] G GC At wpL DR XPost CPost Cut GA GAR GAX GAt NxA GH GHR NxH
attribute [local irreducible] ofD srtL cmpL

theorem wd_va {xs : List (BitVec 8)} : VaD (ofD (wdL xs)) := va_iff.2 ⟨ofD_dic _, fun s hs => wdL_len xs s (ofD_mem.1 hs), by have := ofD_length (wdL xs); have := wdL_length xs; omega⟩
theorem walk_DictionaryRoundTrip (w : World) (a0 : Sl (BitVec 8)) (g0 : Rng.rng a0) [t0 : Tru w [] a0] (a1 : Sl (BitVec 8)) (g1 : Rng.rng a1) [t1 : Tru w [] a1] :
    Calls Try.prog 4 #[a0.v, a1.v] w (Is w (.bool true)) := by
  obtain ⟨v0, xs, o0⟩ := a0
  haveI h0 : RdOld w [] v0 xs := rdOld_tru (x := ⟨v0, xs, o0⟩)
  obtain ⟨v1, r, o1⟩ := a1
  haveI h1 : RdOld w [] v1 r := rdOld_tru (x := ⟨v1, r, o1⟩)
  have hrl := h1.rd.len_le
  clear g0 g1 t0 t1
  show Calls Try.prog 4 #[v0, v1] w (Is w (.bool true))
  by_cases hr : r.length ≤ 100
  · have hl := wdL_length xs
    have hv := wd_va (xs := xs)
    have hp := pa_ok hv
    have hd := ofD_length (wdL xs)
    generalize hL : wdL xs = L at *
    haveI : Eqn (wdL xs) L := ⟨hL⟩
    generalize hD : ofD L = d at *
    haveI : Eqn (ofD L) d := ⟨hD⟩
    haveI : Eqn (paE d) 0 := ⟨hp.1⟩
    haveI : Eqn (paR d) (pkD d) := ⟨hp.2⟩
    have hpl := pk_len hv
    have hu := uP hv r
    generalize hB : pkD d = B at *
    have hBl : (B ++ r).length ≤ 1000000 := by rw [List.length_append]; omega
    haveI : Eqn (uD (B ++ r)) d := ⟨hu.1⟩
    haveI : Eqn (uR (B ++ r)) r := ⟨hu.2.1⟩
    haveI : Eqn (uE (B ++ r)) 0 := ⟨hu.2.2⟩
    clear hp hu hv hB
    refine enter (N := 41) (args := [v0, v1]) Try.func4 rfl rfl rfl (St.refl w) ?_
    repeat' (first
  | refine G_nilC ?_
  | refine G_nilN ?_
  | refine G_nilH ?_
  | (refine G_nil ?_; try clear ri_; try clear ops_)
  | (refine V_op ?_; first | exact True.intro | (intro v_ h_ w_ r_ t_; try (obtain ⟨ta_, tb_⟩ := (t_ : _ ∧ _)); try (obtain ⟨tb_, tc_⟩ := (tb_ : _ ∧ _)); try (obtain ⟨tc_, td_⟩ := (tc_ : _ ∧ _)); try (obtain ⟨td_, te_⟩ := (td_ : _ ∧ _))) | intro (ops_ : Array Oper) ri_ | intro (b_ : Bool) hb_ | (intro v_ h_; try (have o_ := FrzK.one h_)) | intro (v_ : Value) | intro (b_ : Nat) | (refine ⟨fun hc => ?_, fun hc => ?_⟩ <;> try (exfalso; omega)) | refine ⟨?_, ?_⟩ | intro _ | skip)
  | (refine Is_DQ ?_; first | (apply DQ_m rfl rfl rfl rfl; focus (intro wq_ Oq_ rq_ mm; (repeat (first | (refine G_nil ?_; exact X_done rfl (List.Sublist.refl _)) | refine V_op ?_)); done)) | (apply DQ_k rfl rfl rfl rfl; intro wq_ Oq_ rq_ mm) | (apply DQ_y rfl rfl rfl rfl; intro wq_ Oq_ rq_ mm)))
    all_goals
      refine ret_ rfl (by repeat (first | exact ResAll.nil | (apply ResAll.cons; first | exact .tmp rfl | exact .cell rfl rfl | exact .one rfl))) fun w' h' => ?_
      exact .mk rfl h'
  · refine enter (N := 41) (args := [v0, v1]) Try.func4 rfl rfl rfl (St.refl w) ?_
    repeat' (first
  | refine G_nilC ?_
  | refine G_nilN ?_
  | refine G_nilH ?_
  | (refine G_nil ?_; try clear ri_; try clear ops_)
  | (refine V_op ?_; first | exact True.intro | (intro v_ h_ w_ r_ t_; try (obtain ⟨ta_, tb_⟩ := (t_ : _ ∧ _)); try (obtain ⟨tb_, tc_⟩ := (tb_ : _ ∧ _)); try (obtain ⟨tc_, td_⟩ := (tc_ : _ ∧ _)); try (obtain ⟨td_, te_⟩ := (td_ : _ ∧ _))) | intro (ops_ : Array Oper) ri_ | intro (b_ : Bool) hb_ | (intro v_ h_; try (have o_ := FrzK.one h_)) | intro (v_ : Value) | intro (b_ : Nat) | (refine ⟨fun hc => ?_, fun hc => ?_⟩ <;> try (exfalso; omega)) | refine ⟨?_, ?_⟩ | intro _ | skip)
  | (refine Is_DQ ?_; first | (apply DQ_m rfl rfl rfl rfl; focus (intro wq_ Oq_ rq_ mm; (repeat (first | (refine G_nil ?_; exact X_done rfl (List.Sublist.refl _)) | refine V_op ?_)); done)) | (apply DQ_k rfl rfl rfl rfl; intro wq_ Oq_ rq_ mm) | (apply DQ_y rfl rfl rfl rfl; intro wq_ Oq_ rq_ mm)))
    all_goals
      refine ret_ rfl (by repeat (first | exact ResAll.nil | (apply ResAll.cons; first | exact .tmp rfl | exact .cell rfl rfl | exact .one rfl))) fun w' h' => ?_
      exact .mk rfl h'
end Go.Proofs.Ytnncjfphdcfimaa
