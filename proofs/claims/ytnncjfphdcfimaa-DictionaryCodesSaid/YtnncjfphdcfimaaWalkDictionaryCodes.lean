/- The walk of DictionaryCodes. -/
import Derived.Test.YtnncjfphdcfimaaDcl
set_option linter.unusedVariables false
set_option linter.unusedSimpArgs false
set_option maxRecDepth 100000
set_option maxHeartbeats 4000000
namespace Go.Proofs.Ytnncjfphdcfimaa
open Go.RowKit
attribute [local irreducible] G GC At wpL DR XPost CPost Cut GA GAR GAX GAt NxA GH GHR NxH
attribute [local irreducible] ofD srtL cmpL

theorem walk_DictionaryCodes (w : World) (a0 : Sl (BitVec 8)) (g0 : Rng.rng a0) [t0 : Tru w [] a0] (a1 : Sl (BitVec 8)) (g1 : Rng.rng a1) [t1 : Tru w [] a1] :
    Calls Try.prog 6 #[a0.v, a1.v] w (Is w (.bool true)) := by
  obtain ⟨v0, xs, o0⟩ := a0
  haveI h0 : RdOld w [] v0 xs := rdOld_tru (x := ⟨v0, xs, o0⟩)
  obtain ⟨v1, ys, o1⟩ := a1
  haveI h1 : RdOld w [] v1 ys := rdOld_tru (x := ⟨v1, ys, o1⟩)
  clear g0 g1 t0 t1
  show Calls Try.prog 6 #[v0, v1] w (Is w (.bool true))
  obtain ⟨L, hL⟩ : ∃ L, wdL xs = L := ⟨_, rfl⟩
  obtain ⟨M, hM⟩ : ∃ M, wdL ys = M := ⟨_, rfl⟩
  obtain ⟨d, hd⟩ : ∃ d, ofD (M ++ L) = d := ⟨_, rfl⟩
  haveI : Eqn (wdL xs) L := ⟨hL⟩
  haveI : Eqn (wdL ys) M := ⟨hM⟩
  haveI : Eqn (ofD (M ++ L)) d := ⟨hd⟩
  have hl := wdL_length xs
  have hm := wdL_length ys
  have hll := wdL_len xs
  have hml := wdL_len ys
  rw [hL] at hl hll
  rw [hM] at hm hml
  have hlm : (M ++ L).length ≤ 40 := by rw [List.length_append]; omega
  have hdl := ofD_length (M ++ L)
  have hv : VaD d := va_iff.2 ⟨by rw [← hd]; exact ofD_dic _, fun s hs => by
    rw [← hd] at hs
    rcases List.mem_append.1 (ofD_mem.1 hs) with h | h
    · exact hml s h
    · exact hll s h, by rw [← hd]; omega⟩
  rw [hd] at hdl
  have hin : ∀ s ∈ L, ixD d s < d.length := fun s hs => ixD_lt.2 (by rw [← hd]; exact ofD_mem.2 (List.mem_append_right _ hs))
  have hc := cd_ok (l := L) hv hin
  have ho := cd_ok (l := d) hv fun s hs => ixD_lt.2 hs
  have hsx := st_ok (cs := ixL d L) hv fun c hc => by
    obtain ⟨s, hs, rfl⟩ := List.mem_map.1 hc
    have := hin s hs
    omega
  have hst : stL d (ixL d L) = L := by
    rw [stL, ixL, List.map_map]
    conv => rhs; rw [← List.map_id L]
    refine List.map_congr_left fun s hs => ?_
    show d.getD ((ixD d s : Int)).toNat ⟨#[]⟩ = s
    rw [Int.toNat_natCast, getD_at (hin s hs), ixD_get (hin s hs)]
  rw [hst] at hsx
  have hcl : (ixL d L).length = L.length := by rw [ixL, List.length_map]
  have hol : (ixL d d).length = d.length := by rw [ixL, List.length_map]
  have hcg : ∀ k (hk : k < L.length), (ixL d L)[k]'(by omega) = (ixD d L[k] : Int) := fun k hk => by simp only [ixL, List.getElem_map]
  have hog : ∀ k (hk : k < d.length), (ixL d d)[k]'(by omega) = (k : Int) := fun k hk => by
    simp only [ixL, List.getElem_map]
    rw [ix_dic (va_dic hv) hk]
  have hdic := List.pairwise_iff_getElem.1 (va_dic hv)
  have hord : ∀ s t, s ∈ L → t ∈ L → (ltS (bL s) (bL t) ↔ ixD d s < ixD d t) ∧ (bL s = bL t ↔ ixD d s = ixD d t) := fun s t hs ht => by
    have h1 := hin s hs
    have h2 := hin t ht
    have e1 := ixD_get h1
    have e2 := ixD_get h2
    refine ⟨⟨fun h => ?_, fun h => ?_⟩, ⟨fun h => by rw [bL_inj h], fun h => ?_⟩⟩
    · rcases Nat.lt_trichotomy (ixD d s) (ixD d t) with h3 | h3 | h3
      · exact h3
      · have : s = t := by rw [← e1, ← e2]; simp only [h3]
        subst this; exact absurd h (ltS_irr _)
      · have := hdic _ _ h2 h1 h3
        rw [e1, e2] at this
        exact absurd h (ltS_asym this)
    · have := hdic _ _ h1 h2 h
      rw [e1, e2] at this
      exact this
    · rw [← e1, ← e2]; simp only [h]
  haveI : Eqn (cdE d L) 0 := ⟨hc.1⟩
  haveI : Eqn (cdR d L) (ixL d L) := ⟨hc.2⟩
  haveI : Eqn (cdE d d) 0 := ⟨ho.1⟩
  haveI : Eqn (cdR d d) (ixL d d) := ⟨ho.2⟩
  haveI : Eqn (stE d (ixL d L)) 0 := ⟨hsx.1⟩
  haveI : Eqn (stR d (ixL d L)) L := ⟨hsx.2⟩
  clear hL hM hd hv hc ho hsx hst hll hml hdic
  refine enter (N := 140) (args := [v0, v1]) Try.func6 rfl rfl rfl (St.refl w) ?_
  repeat' (first
  | refine G_nilC ?_
  | refine G_nilN ?_
  | refine G_nilH ?_
  | (refine G_nil ?_; try clear ri_; try clear ops_)
  | (refine V_op ?_; first | exact True.intro | (intro v_ h_ w_ r_ t_; try (obtain ⟨ta_, tb_⟩ := (t_ : _ ∧ _)); try (obtain ⟨tb_, tc_⟩ := (tb_ : _ ∧ _)); try (obtain ⟨tc_, td_⟩ := (tc_ : _ ∧ _)); try (obtain ⟨td_, te_⟩ := (td_ : _ ∧ _))) | intro (ops_ : Array Oper) ri_ | intro (b_ : Bool) hb_ | (intro v_ h_; try (have o_ := FrzK.one h_)) | intro (v_ : Value) | intro (b_ : Nat) | (refine ⟨fun hc => ?_, fun hc => ?_⟩ <;> try (exfalso; omega)) | refine ⟨?_, ?_⟩ | intro _ | skip)
  | (refine Is_DQ ?_; first | (apply DQ_m rfl rfl rfl rfl; focus (intro wq_ Oq_ rq_ mm; (repeat (first | (refine G_nil ?_; exact X_done rfl (List.Sublist.refl _)) | refine V_op ?_)); done)) | (apply DQ_k rfl rfl rfl rfl; intro wq_ Oq_ rq_ mm) | (apply DQ_y rfl rfl rfl rfl; intro wq_ Oq_ rq_ mm)))
  refine GC_sub (s' := [(11, _), (9, _), (8, _), (7, _), (6, _), (5, _)]) (by repeat (first | exact trivial | refine And.intro rfl ?_)) (List.Sublist.refl _) ?_
  refine GC_loopS (X := Nat) (fun k => k ≤ L.length) (fun k s => (11, I k) :: s) (fun _ q => q) (fun k => L.length - k) 0 (Nat.zero_le _) (by repeat (first | exact trivial | refine And.intro rfl ?_)) ?_
  intro k hk
  by_cases hkl : k < L.length
  · repeat' (first
  | refine G_nilC ?_
  | refine G_nilN ?_
  | refine G_nilH ?_
  | (refine G_nil ?_; try clear ri_; try clear ops_)
  | (refine V_op ?_; first | exact True.intro | (intro v_ h_ w_ r_ t_; try (obtain ⟨ta_, tb_⟩ := (t_ : _ ∧ _)); try (obtain ⟨tb_, tc_⟩ := (tb_ : _ ∧ _)); try (obtain ⟨tc_, td_⟩ := (tc_ : _ ∧ _)); try (obtain ⟨td_, te_⟩ := (td_ : _ ∧ _))) | intro (ops_ : Array Oper) ri_ | intro (b_ : Bool) hb_ | (intro v_ h_; try (have o_ := FrzK.one h_)) | intro (v_ : Value) | intro (b_ : Nat) | (refine ⟨fun hc => ?_, fun hc => ?_⟩ <;> try (exfalso; omega)) | refine ⟨?_, ?_⟩ | intro _ | skip)
  | (refine Is_DQ ?_; first | (apply DQ_m rfl rfl rfl rfl; focus (intro wq_ Oq_ rq_ mm; (repeat (first | (refine G_nil ?_; exact X_done rfl (List.Sublist.refl _)) | refine V_op ?_)); done)) | (apply DQ_k rfl rfl rfl rfl; intro wq_ Oq_ rq_ mm) | (apply DQ_y rfl rfl rfl rfl; intro wq_ Oq_ rq_ mm)))
    refine GC_loopS (X := Nat) (fun k => k ≤ L.length) (fun k s => (12, I k) :: s) (fun _ q => q) (fun k => L.length - k) 0 (Nat.zero_le _) (by repeat (first | exact trivial | refine And.intro rfl ?_)) ?_
    intro j hj
    by_cases hjl : j < L.length
    · obtain ⟨ho1, ho2⟩ := hord _ _ (List.getElem_mem hkl) (List.getElem_mem hjl)
      have g1 := hcg k hkl
      have g2 := hcg j hjl
      haveI : Fct (k < (ixL d L).length) := ⟨by omega⟩
      haveI : Fct (j < (ixL d L).length) := ⟨by omega⟩
      have hA : decide (ltS (bL (L[k]'hkl)) (bL (L[j]'hjl))) = decide ((ixL d L)[k]'(by omega) < (ixL d L)[j]'(by omega)) := decide_eq_decide.2 (by rw [g1, g2, ho1]; omega)
      have hB : decide (bL (L[k]'hkl) = bL (L[j]'hjl)) = decide ((ixL d L)[k]'(by omega) = (ixL d L)[j]'(by omega)) := decide_eq_decide.2 (by rw [g1, g2, ho2]; omega)
      repeat' (first
  | refine G_nilC ?_
  | refine G_nilN ?_
  | refine G_nilH ?_
  | (refine G_nil ?_; try clear ri_; try clear ops_)
  | (refine V_op ?_; first | exact True.intro | (intro v_ h_ w_ r_ t_; try (obtain ⟨ta_, tb_⟩ := (t_ : _ ∧ _)); try (obtain ⟨tb_, tc_⟩ := (tb_ : _ ∧ _)); try (obtain ⟨tc_, td_⟩ := (tc_ : _ ∧ _)); try (obtain ⟨td_, te_⟩ := (td_ : _ ∧ _))) | intro (ops_ : Array Oper) ri_ | intro (b_ : Bool) hb_ | (intro v_ h_; try (have o_ := FrzK.one h_)) | intro (v_ : Value) | intro (b_ : Nat) | (refine ⟨fun hc => ?_, fun hc => ?_⟩ <;> try (exfalso; omega)) | refine ⟨?_, ?_⟩ | intro _ | skip)
  | (refine Is_DQ ?_; first | (apply DQ_m rfl rfl rfl rfl; focus (intro wq_ Oq_ rq_ mm; (repeat (first | (refine G_nil ?_; exact X_done rfl (List.Sublist.refl _)) | refine V_op ?_)); done)) | (apply DQ_k rfl rfl rfl rfl; intro wq_ Oq_ rq_ mm) | (apply DQ_y rfl rfl rfl rfl; intro wq_ Oq_ rq_ mm)))
      · exact absurd hA hc
      · exact absurd hB hc
      · exact At_roundS (j + 1) (by omega) (by omega) (by repeat (first | exact trivial | refine And.intro rfl ?_)) (by repeat (first | exact trivial | refine And.intro rfl ?_))
    · repeat' (first
  | refine G_nilC ?_
  | refine G_nilN ?_
  | refine G_nilH ?_
  | (refine G_nil ?_; try clear ri_; try clear ops_)
  | (refine V_op ?_; first | exact True.intro | (intro v_ h_ w_ r_ t_; try (obtain ⟨ta_, tb_⟩ := (t_ : _ ∧ _)); try (obtain ⟨tb_, tc_⟩ := (tb_ : _ ∧ _)); try (obtain ⟨tc_, td_⟩ := (tc_ : _ ∧ _)); try (obtain ⟨td_, te_⟩ := (td_ : _ ∧ _))) | intro (ops_ : Array Oper) ri_ | intro (b_ : Bool) hb_ | (intro v_ h_; try (have o_ := FrzK.one h_)) | intro (v_ : Value) | intro (b_ : Nat) | (refine ⟨fun hc => ?_, fun hc => ?_⟩ <;> try (exfalso; omega)) | refine ⟨?_, ?_⟩ | intro _ | skip)
  | (refine Is_DQ ?_; first | (apply DQ_m rfl rfl rfl rfl; focus (intro wq_ Oq_ rq_ mm; (repeat (first | (refine G_nil ?_; exact X_done rfl (List.Sublist.refl _)) | refine V_op ?_)); done)) | (apply DQ_k rfl rfl rfl rfl; intro wq_ Oq_ rq_ mm) | (apply DQ_y rfl rfl rfl rfl; intro wq_ Oq_ rq_ mm)))
      exact At_roundS (k + 1) (by omega) (by omega) (by repeat (first | exact trivial | refine And.intro rfl ?_)) (by repeat (first | exact trivial | refine And.intro rfl ?_))
  · repeat' (first
  | refine G_nilC ?_
  | refine G_nilN ?_
  | refine G_nilH ?_
  | (refine G_nil ?_; try clear ri_; try clear ops_)
  | (refine V_op ?_; first | exact True.intro | (intro v_ h_ w_ r_ t_; try (obtain ⟨ta_, tb_⟩ := (t_ : _ ∧ _)); try (obtain ⟨tb_, tc_⟩ := (tb_ : _ ∧ _)); try (obtain ⟨tc_, td_⟩ := (tc_ : _ ∧ _)); try (obtain ⟨td_, te_⟩ := (td_ : _ ∧ _))) | intro (ops_ : Array Oper) ri_ | intro (b_ : Bool) hb_ | (intro v_ h_; try (have o_ := FrzK.one h_)) | intro (v_ : Value) | intro (b_ : Nat) | (refine ⟨fun hc => ?_, fun hc => ?_⟩ <;> try (exfalso; omega)) | refine ⟨?_, ?_⟩ | intro _ | skip)
  | (refine Is_DQ ?_; first | (apply DQ_m rfl rfl rfl rfl; focus (intro wq_ Oq_ rq_ mm; (repeat (first | (refine G_nil ?_; exact X_done rfl (List.Sublist.refl _)) | refine V_op ?_)); done)) | (apply DQ_k rfl rfl rfl rfl; intro wq_ Oq_ rq_ mm) | (apply DQ_y rfl rfl rfl rfl; intro wq_ Oq_ rq_ mm)))
    refine GC_loopS (X := Nat) (fun k => k ≤ d.length) (fun k s => (13, I k) :: s) (fun _ q => q) (fun k => d.length - k) 0 (Nat.zero_le _) (by repeat (first | exact trivial | refine And.intro rfl ?_)) ?_
    intro j hj
    by_cases hjl : j < d.length
    · have g1 := hog j hjl
      haveI : Fct (j < (ixL d d).length) := ⟨by omega⟩
      repeat' (first
  | refine G_nilC ?_
  | refine G_nilN ?_
  | refine G_nilH ?_
  | (refine G_nil ?_; try clear ri_; try clear ops_)
  | (refine V_op ?_; first | exact True.intro | (intro v_ h_ w_ r_ t_; try (obtain ⟨ta_, tb_⟩ := (t_ : _ ∧ _)); try (obtain ⟨tb_, tc_⟩ := (tb_ : _ ∧ _)); try (obtain ⟨tc_, td_⟩ := (tc_ : _ ∧ _)); try (obtain ⟨td_, te_⟩ := (td_ : _ ∧ _))) | intro (ops_ : Array Oper) ri_ | intro (b_ : Bool) hb_ | (intro v_ h_; try (have o_ := FrzK.one h_)) | intro (v_ : Value) | intro (b_ : Nat) | (refine ⟨fun hc => ?_, fun hc => ?_⟩ <;> try (exfalso; omega)) | refine ⟨?_, ?_⟩ | intro _ | skip)
  | (refine Is_DQ ?_; first | (apply DQ_m rfl rfl rfl rfl; focus (intro wq_ Oq_ rq_ mm; (repeat (first | (refine G_nil ?_; exact X_done rfl (List.Sublist.refl _)) | refine V_op ?_)); done)) | (apply DQ_k rfl rfl rfl rfl; intro wq_ Oq_ rq_ mm) | (apply DQ_y rfl rfl rfl rfl; intro wq_ Oq_ rq_ mm)))
      exact At_roundS (j + 1) (by omega) (by omega) (by repeat (first | exact trivial | refine And.intro rfl ?_)) (by repeat (first | exact trivial | refine And.intro rfl ?_))
    · repeat' (first
  | refine G_nilC ?_
  | refine G_nilN ?_
  | refine G_nilH ?_
  | (refine G_nil ?_; try clear ri_; try clear ops_)
  | (refine V_op ?_; first | exact True.intro | (intro v_ h_ w_ r_ t_; try (obtain ⟨ta_, tb_⟩ := (t_ : _ ∧ _)); try (obtain ⟨tb_, tc_⟩ := (tb_ : _ ∧ _)); try (obtain ⟨tc_, td_⟩ := (tc_ : _ ∧ _)); try (obtain ⟨td_, te_⟩ := (td_ : _ ∧ _))) | intro (ops_ : Array Oper) ri_ | intro (b_ : Bool) hb_ | (intro v_ h_; try (have o_ := FrzK.one h_)) | intro (v_ : Value) | intro (b_ : Nat) | (refine ⟨fun hc => ?_, fun hc => ?_⟩ <;> try (exfalso; omega)) | refine ⟨?_, ?_⟩ | intro _ | skip)
  | (refine Is_DQ ?_; first | (apply DQ_m rfl rfl rfl rfl; focus (intro wq_ Oq_ rq_ mm; (repeat (first | (refine G_nil ?_; exact X_done rfl (List.Sublist.refl _)) | refine V_op ?_)); done)) | (apply DQ_k rfl rfl rfl rfl; intro wq_ Oq_ rq_ mm) | (apply DQ_y rfl rfl rfl rfl; intro wq_ Oq_ rq_ mm)))
      all_goals
        refine ret_ rfl (by repeat (first | exact ResAll.nil | (apply ResAll.cons; first | exact .tmp rfl | exact .cell rfl rfl | exact .one rfl))) fun w' h' => ?_
        exact .mk rfl h'
end Go.Proofs.Ytnncjfphdcfimaa
