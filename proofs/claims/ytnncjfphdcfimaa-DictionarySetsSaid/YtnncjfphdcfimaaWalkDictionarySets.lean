/- The walk of DictionarySets. -/
import Derived.Test.YtnncjfphdcfimaaDcl
set_option linter.unusedVariables false
set_option linter.unusedSimpArgs false
set_option maxRecDepth 100000
set_option maxHeartbeats 4000000
namespace Go.Proofs.Ytnncjfphdcfimaa
open Go.RowKit
attribute [local irreducible] G GC At wpL DR XPost CPost Cut GA GAR GAX GAt NxA GH GHR NxH
attribute [local irreducible] ofD srtL cmpL

theorem wd_va {xs : List (BitVec 8)} : VaD (ofD (wdL xs)) := va_iff.2 ⟨ofD_dic _, fun s hs => wdL_len xs s (ofD_mem.1 hs), by have := ofD_length (wdL xs); have := wdL_length xs; omega⟩
theorem walk_DictionarySets (w : World) (a0 : Sl (BitVec 8)) (g0 : Rng.rng a0) [t0 : Tru w [] a0] (a1 : Sl (BitVec 8)) (g1 : Rng.rng a1) [t1 : Tru w [] a1] :
    Calls Try.prog 7 #[a0.v, a1.v] w (Is w (.bool true)) := by
  obtain ⟨v0, xs, o0⟩ := a0
  haveI h0 : RdOld w [] v0 xs := rdOld_tru (x := ⟨v0, xs, o0⟩)
  obtain ⟨v1, ys, o1⟩ := a1
  haveI h1 : RdOld w [] v1 ys := rdOld_tru (x := ⟨v1, ys, o1⟩)
  clear g0 g1 t0 t1
  show Calls Try.prog 7 #[v0, v1] w (Is w (.bool true))
  obtain ⟨L, hL⟩ : ∃ L, wdL xs = L := ⟨_, rfl⟩
  obtain ⟨M, hM⟩ : ∃ M, wdL ys = M := ⟨_, rfl⟩
  obtain ⟨d, hd⟩ : ∃ d, ofD L = d := ⟨_, rfl⟩
  obtain ⟨e, he⟩ : ∃ e, ofD M = e := ⟨_, rfl⟩
  obtain ⟨bo, hbo⟩ : ∃ bo, ofD (L ++ M) = bo := ⟨_, rfl⟩
  haveI : Eqn (wdL xs) L := ⟨hL⟩
  haveI : Eqn (wdL ys) M := ⟨hM⟩
  haveI : Eqn (ofD L) d := ⟨hd⟩
  haveI : Eqn (ofD M) e := ⟨he⟩
  haveI : Eqn (ofD (L ++ M)) bo := ⟨hbo⟩
  have hl := wdL_length xs
  have hm := wdL_length ys
  have hdl := ofD_length L
  have hel := ofD_length M
  have hv := wd_va (xs := xs)
  rw [hL] at hl hv
  rw [hM] at hm
  rw [hd] at hdl hv
  rw [he] at hel
  haveI : Yes (VaD d) := ⟨hv⟩
  have hfd : ∀ s ∈ L, ixD d s < d.length := fun s hs => ixD_lt.2 (by rw [← hd]; exact ofD_mem.2 hs)
  have hfl : ∀ s ∈ d, ixD L s < L.length := fun s hs => ixD_lt.2 (by rw [← hd] at hs; exact ofD_mem.1 hs)
  have hlm : (L ++ M).length ≤ 40 := by rw [List.length_append]; omega
  have hed : (e ++ d).length ≤ 40 := by rw [List.length_append]; omega
  have hBl : (L ++ L.reverse).length ≤ 40 := by rw [List.length_append, List.length_reverse]; omega
  have hBl2 : L.length ≤ (L ++ L.reverse).length := by rw [List.length_append]; omega
  haveI : Eqn (ofD (e ++ d)) bo := ⟨by
    rw [← hbo]
    refine ofD_congr fun s => ?_
    rw [List.mem_append, List.mem_append, ← he, ← hd, ofD_mem, ofD_mem]
    exact or_comm⟩
  haveI : Eqn (ofD d) d := ⟨ofD_id (va_dic hv)⟩
  haveI : Eqn (ofD (L ++ L.reverse)) d := ⟨by
    rw [← hd]
    exact ofD_congr fun s => by rw [List.mem_append, List.mem_reverse, or_self]⟩
  haveI : Fct (L.length ≤ (L ++ L.reverse).length ∧ (L ++ L.reverse).length ≤ (L ++ L.reverse).length) := ⟨by rw [List.length_append]; omega⟩
  haveI : Eqn (ofD (List.take ((L ++ L.reverse).length - L.length) (List.drop L.length (L ++ L.reverse)))) d := ⟨by
    rw [List.drop_left, ← hd, List.take_of_length_le (by rw [List.length_append]; omega)]
    exact ofD_congr fun s => by rw [List.mem_reverse]⟩
  have hcl : (List.take ((L ++ L.reverse).length - L.length) (List.drop L.length (L ++ L.reverse))).length ≤ 40 := by rw [List.length_take, List.length_drop]; omega
  clear hL hM hd he hbo hv
  refine enter (N := 111) (args := [v0, v1]) Try.func7 rfl rfl rfl (St.refl w) ?_
  repeat' (first
  | refine G_nilC ?_
  | refine G_nilN ?_
  | refine G_nilH ?_
  | (refine G_nil ?_; try clear ri_; try clear ops_)
  | (refine V_op ?_; first | exact True.intro | (intro v_ h_ w_ r_ t_; try (obtain ⟨ta_, tb_⟩ := (t_ : _ ∧ _)); try (obtain ⟨tb_, tc_⟩ := (tb_ : _ ∧ _)); try (obtain ⟨tc_, td_⟩ := (tc_ : _ ∧ _)); try (obtain ⟨td_, te_⟩ := (td_ : _ ∧ _))) | intro (ops_ : Array Oper) ri_ | intro (b_ : Bool) hb_ | (intro v_ h_; try (have o_ := FrzK.one h_)) | intro (v_ : Value) | intro (b_ : Nat) | (refine ⟨fun hc => ?_, fun hc => ?_⟩ <;> try (exfalso; omega)) | refine ⟨?_, ?_⟩ | intro _ | skip)
  | (refine Is_DQ ?_; first | (apply DQ_m rfl rfl rfl rfl; focus (intro wq_ Oq_ rq_ mm; (repeat (first | (refine G_nil ?_; exact X_done rfl (List.Sublist.refl _)) | refine V_op ?_)); done)) | (apply DQ_k rfl rfl rfl rfl; intro wq_ Oq_ rq_ mm) | (apply DQ_y rfl rfl rfl rfl; intro wq_ Oq_ rq_ mm)))
  refine GC_loopS (X := Nat × Value) (fun y => y.1 ≤ L.length) (fun y s => (11, I ((y.1 : Int) - 1)) :: (10, y.2) :: s) (fun y q => row y.2 9 (L ++ (L.drop y.1).reverse) :: q) (fun y => y.1) (L.length, v_) (Nat.le_refl _) (by repeat (first | exact trivial | refine And.intro rfl ?_)) ?_ (want := [row v_ 9 L]) (hm0 := by simp only [List.drop_length, List.reverse_nil, List.append_nil])
  rintro ⟨r, bv⟩ hr
  simp only at hr ⊢
  have hrl : (L ++ (L.drop r).reverse).length ≤ 40 := by rw [List.length_append, List.length_reverse, List.length_drop]; omega
  cases r with
  | succ n =>
    rw [show (((n + 1 : Nat) : Int) - 1) = (n : Int) by omega]
    haveI : AppN (L ++ (L.drop (n + 1)).reverse) [L[n]'(by omega)] (L ++ (L.drop n).reverse) := ⟨by
      rw [List.drop_eq_getElem_cons (show n < L.length by omega), List.reverse_cons, List.append_assoc]⟩
    repeat' (first
  | refine G_nilC ?_
  | refine G_nilN ?_
  | refine G_nilH ?_
  | (refine G_nil ?_; try clear ri_; try clear ops_)
  | (refine V_op ?_; first | exact True.intro | (intro v_ h_ w_ r_ t_; try (obtain ⟨ta_, tb_⟩ := (t_ : _ ∧ _)); try (obtain ⟨tb_, tc_⟩ := (tb_ : _ ∧ _)); try (obtain ⟨tc_, td_⟩ := (tc_ : _ ∧ _)); try (obtain ⟨td_, te_⟩ := (td_ : _ ∧ _))) | intro (ops_ : Array Oper) ri_ | intro (b_ : Bool) hb_ | (intro v_ h_; try (have o_ := FrzK.one h_)) | intro (v_ : Value) | intro (b_ : Nat) | (refine ⟨fun hc => ?_, fun hc => ?_⟩ <;> try (exfalso; omega)) | refine ⟨?_, ?_⟩ | intro _ | skip)
  | (refine Is_DQ ?_; first | (apply DQ_m rfl rfl rfl rfl; focus (intro wq_ Oq_ rq_ mm; (repeat (first | (refine G_nil ?_; exact X_done rfl (List.Sublist.refl _)) | refine V_op ?_)); done)) | (apply DQ_k rfl rfl rfl rfl; intro wq_ Oq_ rq_ mm) | (apply DQ_y rfl rfl rfl rfl; intro wq_ Oq_ rq_ mm)))
    exact At_roundS (n, v_) (by simp only; omega) (by simp only; omega) (by repeat (first | exact trivial | refine And.intro rfl ?_)) (by repeat (first | exact trivial | refine And.intro rfl ?_))
  | zero =>
    rw [List.drop_zero]
    repeat' (first
  | refine G_nilC ?_
  | refine G_nilN ?_
  | refine G_nilH ?_
  | (refine G_nil ?_; try clear ri_; try clear ops_)
  | (refine V_op ?_; first | exact True.intro | (intro v_ h_ w_ r_ t_; try (obtain ⟨ta_, tb_⟩ := (t_ : _ ∧ _)); try (obtain ⟨tb_, tc_⟩ := (tb_ : _ ∧ _)); try (obtain ⟨tc_, td_⟩ := (tc_ : _ ∧ _)); try (obtain ⟨td_, te_⟩ := (td_ : _ ∧ _))) | intro (ops_ : Array Oper) ri_ | intro (b_ : Bool) hb_ | (intro v_ h_; try (have o_ := FrzK.one h_)) | intro (v_ : Value) | intro (b_ : Nat) | (refine ⟨fun hc => ?_, fun hc => ?_⟩ <;> try (exfalso; omega)) | refine ⟨?_, ?_⟩ | intro _ | skip)
  | (refine Is_DQ ?_; first | (apply DQ_m rfl rfl rfl rfl; focus (intro wq_ Oq_ rq_ mm; (repeat (first | (refine G_nil ?_; exact X_done rfl (List.Sublist.refl _)) | refine V_op ?_)); done)) | (apply DQ_k rfl rfl rfl rfl; intro wq_ Oq_ rq_ mm) | (apply DQ_y rfl rfl rfl rfl; intro wq_ Oq_ rq_ mm)))
    refine GC_loopS (X := Nat) (fun k => k ≤ L.length) (fun k s => (12, I k) :: s) (fun _ q => q) (fun k => L.length - k) 0 (Nat.zero_le _) (by repeat (first | exact trivial | refine And.intro rfl ?_)) ?_
    intro k hk
    by_cases hkl : k < L.length
    · have hf := fnD_lt (hfd _ (List.getElem_mem hkl))
      repeat' (first
  | refine G_nilC ?_
  | refine G_nilN ?_
  | refine G_nilH ?_
  | (refine G_nil ?_; try clear ri_; try clear ops_)
  | (refine V_op ?_; first | exact True.intro | (intro v_ h_ w_ r_ t_; try (obtain ⟨ta_, tb_⟩ := (t_ : _ ∧ _)); try (obtain ⟨tb_, tc_⟩ := (tb_ : _ ∧ _)); try (obtain ⟨tc_, td_⟩ := (tc_ : _ ∧ _)); try (obtain ⟨td_, te_⟩ := (td_ : _ ∧ _))) | intro (ops_ : Array Oper) ri_ | intro (b_ : Bool) hb_ | (intro v_ h_; try (have o_ := FrzK.one h_)) | intro (v_ : Value) | intro (b_ : Nat) | (refine ⟨fun hc => ?_, fun hc => ?_⟩ <;> try (exfalso; omega)) | refine ⟨?_, ?_⟩ | intro _ | skip)
  | (refine Is_DQ ?_; first | (apply DQ_m rfl rfl rfl rfl; focus (intro wq_ Oq_ rq_ mm; (repeat (first | (refine G_nil ?_; exact X_done rfl (List.Sublist.refl _)) | refine V_op ?_)); done)) | (apply DQ_k rfl rfl rfl rfl; intro wq_ Oq_ rq_ mm) | (apply DQ_y rfl rfl rfl rfl; intro wq_ Oq_ rq_ mm)))
      exact At_roundS (k + 1) (by omega) (by omega) (by repeat (first | exact trivial | refine And.intro rfl ?_)) (by repeat (first | exact trivial | refine And.intro rfl ?_))
    · repeat' (first
  | refine G_nilC ?_
  | refine G_nilN ?_
  | refine G_nilH ?_
  | (refine G_nil ?_; try clear ri_; try clear ops_)
  | (refine V_op ?_; first | exact True.intro | (intro v_ h_ w_ r_ t_; try (obtain ⟨ta_, tb_⟩ := (t_ : _ ∧ _)); try (obtain ⟨tb_, tc_⟩ := (tb_ : _ ∧ _)); try (obtain ⟨tc_, td_⟩ := (tc_ : _ ∧ _)); try (obtain ⟨td_, te_⟩ := (td_ : _ ∧ _))) | intro (ops_ : Array Oper) ri_ | intro (b_ : Bool) hb_ | (intro v_ h_; try (have o_ := FrzK.one h_)) | intro (v_ : Value) | intro (b_ : Nat) | (refine ⟨fun hc => ?_, fun hc => ?_⟩ <;> try (exfalso; omega)) | refine ⟨?_, ?_⟩ | intro _ | skip)
  | (refine Is_DQ ?_; first | (apply DQ_m rfl rfl rfl rfl; focus (intro wq_ Oq_ rq_ mm; (repeat (first | (refine G_nil ?_; exact X_done rfl (List.Sublist.refl _)) | refine V_op ?_)); done)) | (apply DQ_k rfl rfl rfl rfl; intro wq_ Oq_ rq_ mm) | (apply DQ_y rfl rfl rfl rfl; intro wq_ Oq_ rq_ mm)))
      refine GC_loopS (X := Nat) (fun k => k ≤ d.length) (fun k s => (13, I k) :: s) (fun _ q => q) (fun k => d.length - k) 0 (Nat.zero_le _) (by repeat (first | exact trivial | refine And.intro rfl ?_)) ?_
      intro k' hk'
      by_cases hkd : k' < d.length
      · have hf := fnD_lt (hfl _ (List.getElem_mem hkd))
        repeat' (first
  | refine G_nilC ?_
  | refine G_nilN ?_
  | refine G_nilH ?_
  | (refine G_nil ?_; try clear ri_; try clear ops_)
  | (refine V_op ?_; first | exact True.intro | (intro v_ h_ w_ r_ t_; try (obtain ⟨ta_, tb_⟩ := (t_ : _ ∧ _)); try (obtain ⟨tb_, tc_⟩ := (tb_ : _ ∧ _)); try (obtain ⟨tc_, td_⟩ := (tc_ : _ ∧ _)); try (obtain ⟨td_, te_⟩ := (td_ : _ ∧ _))) | intro (ops_ : Array Oper) ri_ | intro (b_ : Bool) hb_ | (intro v_ h_; try (have o_ := FrzK.one h_)) | intro (v_ : Value) | intro (b_ : Nat) | (refine ⟨fun hc => ?_, fun hc => ?_⟩ <;> try (exfalso; omega)) | refine ⟨?_, ?_⟩ | intro _ | skip)
  | (refine Is_DQ ?_; first | (apply DQ_m rfl rfl rfl rfl; focus (intro wq_ Oq_ rq_ mm; (repeat (first | (refine G_nil ?_; exact X_done rfl (List.Sublist.refl _)) | refine V_op ?_)); done)) | (apply DQ_k rfl rfl rfl rfl; intro wq_ Oq_ rq_ mm) | (apply DQ_y rfl rfl rfl rfl; intro wq_ Oq_ rq_ mm)))
        exact At_roundS (k' + 1) (by omega) (by omega) (by repeat (first | exact trivial | refine And.intro rfl ?_)) (by repeat (first | exact trivial | refine And.intro rfl ?_))
      · repeat' (first
  | refine G_nilC ?_
  | refine G_nilN ?_
  | refine G_nilH ?_
  | (refine G_nil ?_; try clear ri_; try clear ops_)
  | (refine V_op ?_; first | exact True.intro | (intro v_ h_ w_ r_ t_; try (obtain ⟨ta_, tb_⟩ := (t_ : _ ∧ _)); try (obtain ⟨tb_, tc_⟩ := (tb_ : _ ∧ _)); try (obtain ⟨tc_, td_⟩ := (tc_ : _ ∧ _)); try (obtain ⟨td_, te_⟩ := (td_ : _ ∧ _))) | intro (ops_ : Array Oper) ri_ | intro (b_ : Bool) hb_ | (intro v_ h_; try (have o_ := FrzK.one h_)) | intro (v_ : Value) | intro (b_ : Nat) | (refine ⟨fun hc => ?_, fun hc => ?_⟩ <;> try (exfalso; omega)) | refine ⟨?_, ?_⟩ | intro _ | skip)
  | (refine Is_DQ ?_; first | (apply DQ_m rfl rfl rfl rfl; focus (intro wq_ Oq_ rq_ mm; (repeat (first | (refine G_nil ?_; exact X_done rfl (List.Sublist.refl _)) | refine V_op ?_)); done)) | (apply DQ_k rfl rfl rfl rfl; intro wq_ Oq_ rq_ mm) | (apply DQ_y rfl rfl rfl rfl; intro wq_ Oq_ rq_ mm)))
        all_goals
          refine ret_ rfl (by repeat (first | exact ResAll.nil | (apply ResAll.cons; first | exact .tmp rfl | exact .cell rfl rfl | exact .one rfl))) fun w' h' => ?_
          exact .mk rfl h'
end Go.Proofs.Ytnncjfphdcfimaa
