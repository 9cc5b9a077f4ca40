/- Dictionary: Codes, Strings. -/
import Derived.Test.YtnncjfphdcfimaaDcb
set_option linter.unusedVariables false
set_option linter.unusedSimpArgs false
set_option maxRecDepth 100000
set_option maxHeartbeats 4000000
namespace Go.Proofs.Ytnncjfphdcfimaa
open Go.RowKit
attribute [local irreducible] G GC At wpL DR XPost CPost Cut GA GAR GAX GAt NxA GH GHR NxH
attribute [local irreducible] ofD srtL cmpL

def ixL (d l : List ByteArray) : List Int := l.map fun s => (ixD d s : Int)
open Classical in
/-- codes: the error -/
noncomputable def cdE (d l : List ByteArray) : Int := if VaD d then (if ∀ s ∈ l, ixD d s < d.length then 0 else 4) else 1
noncomputable def cdR (d l : List ByteArray) : List Int := if cdE d l = 0 then ixL d l else []
theorem cd_no {d l : List ByteArray} (h : ¬ VaD d) : cdE d l = 1 ∧ cdR d l = [] := by
  have e : cdE d l = 1 := by rw [cdE, if_neg h]
  exact ⟨e, by rw [cdR, e, if_neg (by decide)]⟩
theorem cd_ok {d l : List ByteArray} (h : VaD d) (h' : ∀ s ∈ l, ixD d s < d.length) : cdE d l = 0 ∧ cdR d l = ixL d l := by
  have e : cdE d l = 0 := by rw [cdE, if_pos h, if_pos h']
  exact ⟨e, by rw [cdR, e, if_pos rfl]⟩
theorem cd_none {d l : List ByteArray} (h : VaD d) {k : Nat} (hk : k < l.length) (h' : ¬ ixD d l[k] < d.length) : cdE d l = 4 ∧ cdR d l = [] := by
  have e : cdE d l = 4 := by rw [cdE, if_pos h, if_neg fun h1 => h' (h1 _ (List.getElem_mem hk))]
  exact ⟨e, by rw [cdR, e, if_neg (by decide)]⟩

/-- the map from strings to codes -/
def mpF (o : Nat) : List ByteArray → List (ByteArray × Int)
  | [] => []
  | a :: l => (a, (o : Int)) :: mpF (o + 1) l
theorem mpF_app (x : ByteArray) : ∀ (l : List ByteArray) (o : Nat), mpF o (l ++ [x]) = mpF o l ++ [(x, ((o + l.length : Nat) : Int))]
  | [], o => rfl
  | a :: l, o => by
    rw [List.cons_append, mpF, mpF_app x l (o + 1), mpF, List.cons_append, List.length_cons, show o + 1 + l.length = o + (l.length + 1) by omega]
theorem find_mpF (s : ByteArray) : ∀ (l : List ByteArray) (o i : Nat), mFind (mpF o l) s i = if ixD l s < l.length then some (i + ixD l s, ((o + ixD l s : Nat) : Int)) else none
  | [], o, i => rfl
  | a :: l, o, i => by
    rw [mpF, mFind, ixD]
    by_cases h : a = s
    · subst h
      simp
    · have h' : ¬ s = (a, (o : Int)).1 := fun e => h e.symm
      rw [if_neg h', if_neg h, find_mpF s l (o + 1) (i + 1), List.length_cons]
      by_cases h2 : ixD l s < l.length
      · rw [if_pos h2, if_pos (by omega), show i + 1 + ixD l s = i + (ixD l s + 1) by omega, show o + 1 + ixD l s = o + (ixD l s + 1) by omega]
      · rw [if_neg h2, if_neg (by omega)]
theorem put_mpF {d : List ByteArray} (h : Dic d) {k : Nat} (hk : k < d.length) : mPut (mpF 0 (d.take k)) d[k] (k : Int) = mpF 0 (d.take (k + 1)) := by
  have hn : ¬ ixD (d.take k) d[k] < (d.take k).length := fun h1 => by
    obtain ⟨i, hi, e⟩ := List.mem_iff_getElem.1 (ixD_lt.1 h1)
    rw [List.length_take] at hi
    rw [List.getElem_take] at e
    exact dic_nodup h i k (by omega) hk (by omega) e
  have hf := find_mpF d[k] (d.take k) 0 0
  rw [if_neg hn] at hf
  rw [mFind_none hf, List.take_succ_eq_append_getElem hk, mpF_app]
  congr 3
  rw [List.length_take]; omega
theorem get_mpF (d : List ByteArray) (s : ByteArray) : mGet (mpF 0 d) s = if ixD d s < d.length then some (ixD d s : Int) else none := by
  rw [mGet, find_mpF]
  split
  · rw [Option.map_some, Nat.zero_add]
  · rfl
theorem take_set {α : Type} {c : List α} {k : Nat} {x : α} (hk : k < c.length) : (c.set k x).take (k + 1) = c.take k ++ [x] := by
  rw [List.take_succ_eq_append_getElem (by rw [List.length_set]; exact hk), List.getElem_set_self, List.take_set_of_le (Nat.le_refl k)]

theorem run_Codes (w : World) (v v' : Value) (d l : List ByteArray) [h : RdOld w [] v d] [h' : RdOld w [] v' l] (hl : l.length ≤ 100000) (e : Int) (R : List Int) (h0 : cdE d l = e ∧ cdR d l = R) :
    Calls Try.prog 29 #[v, v'] w (Ret w [] (fun _ : Value => True) (fun r => .tuple #[r, I e]) (fun r => [row r 3 R])) := by
  have hd := h.rd.len_le
  by_cases hv : VaD d
  · haveI : Yes (VaD d) := ⟨hv⟩
    have hdic := va_dic hv
    have hd2 := hv.2
    refine enter (N := 53) (args := [v, v']) Try.func29 rfl rfl rfl (St.refl w) ?_
    repeat' (first
  | refine G_nilC ?_
  | refine G_nilN ?_
  | refine G_nilH ?_
  | (refine G_nil ?_; try clear ri_; try clear ops_)
  | (refine V_op ?_; first | exact True.intro | (intro v_ h_ w_ r_ t_; try (obtain ⟨ta_, tb_⟩ := (t_ : _ ∧ _)); try (obtain ⟨tb_, tc_⟩ := (tb_ : _ ∧ _)); try (obtain ⟨tc_, td_⟩ := (tc_ : _ ∧ _)); try (obtain ⟨td_, te_⟩ := (td_ : _ ∧ _))) | intro (ops_ : Array Oper) ri_ | intro (b_ : Bool) hb_ | (intro v_ h_; try (have o_ := FrzK.one h_)) | intro (v_ : Value) | intro (b_ : Nat) | (refine ⟨fun hc => ?_, fun hc => ?_⟩ <;> try (exfalso; omega)) | refine ⟨?_, ?_⟩ | intro _ | skip)
  | (refine Is_DQ ?_; first | (apply DQ_m rfl rfl rfl rfl; focus (intro wq_ Oq_ rq_ mm; (repeat (first | (refine G_nil ?_; exact X_done rfl (List.Sublist.refl _)) | refine V_op ?_)); done)) | (apply DQ_k rfl rfl rfl rfl; intro wq_ Oq_ rq_ mm) | (apply DQ_y rfl rfl rfl rfl; intro wq_ Oq_ rq_ mm)))
    refine GC_loopS (X := Nat) (fun k => k ≤ d.length) (fun k s => (20, I k) :: s) (fun k q => .box b_ (mapO (mpF 0 (d.take k))) :: q) (fun k => d.length - k) 0 (Nat.zero_le _) (by repeat (first | exact trivial | refine And.intro rfl ?_)) ?_ (want := [.box b_ (mapO ([] : List (ByteArray × Int)))]) (hm0 := rfl)
    rintro k hk
    by_cases hlt : k < d.length
    · haveI : Eqn (mPut (mpF 0 (d.take k)) (d[k]'hlt) (k : Int)) (mpF 0 (d.take (k + 1))) := ⟨put_mpF hdic hlt⟩
      repeat' (first
  | refine G_nilC ?_
  | refine G_nilN ?_
  | refine G_nilH ?_
  | (refine G_nil ?_; try clear ri_; try clear ops_)
  | (refine V_op ?_; first | exact True.intro | (intro v_ h_ w_ r_ t_; try (obtain ⟨ta_, tb_⟩ := (t_ : _ ∧ _)); try (obtain ⟨tb_, tc_⟩ := (tb_ : _ ∧ _)); try (obtain ⟨tc_, td_⟩ := (tc_ : _ ∧ _)); try (obtain ⟨td_, te_⟩ := (td_ : _ ∧ _))) | intro (ops_ : Array Oper) ri_ | intro (b_ : Bool) hb_ | (intro v_ h_; try (have o_ := FrzK.one h_)) | intro (v_ : Value) | intro (b_ : Nat) | (refine ⟨fun hc => ?_, fun hc => ?_⟩ <;> try (exfalso; omega)) | refine ⟨?_, ?_⟩ | intro _ | skip)
  | (refine Is_DQ ?_; first | (apply DQ_m rfl rfl rfl rfl; focus (intro wq_ Oq_ rq_ mm; (repeat (first | (refine G_nil ?_; exact X_done rfl (List.Sublist.refl _)) | refine V_op ?_)); done)) | (apply DQ_k rfl rfl rfl rfl; intro wq_ Oq_ rq_ mm) | (apply DQ_y rfl rfl rfl rfl; intro wq_ Oq_ rq_ mm)))
      exact At_roundS (k + 1) (by omega) (by omega) (by repeat (first | exact trivial | refine And.intro rfl ?_)) (by repeat (first | exact trivial | refine And.intro rfl ?_))
    · obtain rfl : k = d.length := by omega
      rw [List.take_length]
      repeat' (first
  | refine G_nilC ?_
  | refine G_nilN ?_
  | refine G_nilH ?_
  | (refine G_nil ?_; try clear ri_; try clear ops_)
  | (refine V_op ?_; first | exact True.intro | (intro v_ h_ w_ r_ t_; try (obtain ⟨ta_, tb_⟩ := (t_ : _ ∧ _)); try (obtain ⟨tb_, tc_⟩ := (tb_ : _ ∧ _)); try (obtain ⟨tc_, td_⟩ := (tc_ : _ ∧ _)); try (obtain ⟨td_, te_⟩ := (td_ : _ ∧ _))) | intro (ops_ : Array Oper) ri_ | intro (b_ : Bool) hb_ | (intro v_ h_; try (have o_ := FrzK.one h_)) | intro (v_ : Value) | intro (b_ : Nat) | (refine ⟨fun hc => ?_, fun hc => ?_⟩ <;> try (exfalso; omega)) | refine ⟨?_, ?_⟩ | intro _ | skip)
  | (refine Is_DQ ?_; first | (apply DQ_m rfl rfl rfl rfl; focus (intro wq_ Oq_ rq_ mm; (repeat (first | (refine G_nil ?_; exact X_done rfl (List.Sublist.refl _)) | refine V_op ?_)); done)) | (apply DQ_k rfl rfl rfl rfl; intro wq_ Oq_ rq_ mm) | (apply DQ_y rfl rfl rfl rfl; intro wq_ Oq_ rq_ mm)))
      refine GC_loopS (X := Nat × List Int) (fun y => y.1 ≤ l.length ∧ y.2.length = l.length ∧ y.2.take y.1 = (ixL d l).take y.1 ∧ ∀ i (hi : i < l.length), i < y.1 → ixD d l[i] < d.length) (fun y s => (34, I y.1) :: s) (fun y q => row v_ 3 y.2 :: q) (fun y => l.length - y.1) (0, List.replicate l.length (0 : Int)) ⟨Nat.zero_le _, List.length_replicate, by simp, fun i hi h => by omega⟩ (by repeat (first | exact trivial | refine And.intro rfl ?_)) ?_ (want := [row v_ 3 (List.replicate l.length (0 : Int))]) (hm0 := rfl)
      rintro ⟨k, c⟩ ⟨hk2, hcl, htk, hin⟩
      simp only at hk2 hcl htk hin ⊢
      by_cases hkl : k < l.length
      · by_cases hix : ixD d (l[k]'hkl) < d.length
        · haveI : Eqn (mGet (mpF 0 d) (l[k]'hkl)) (some (ixD d (l[k]'hkl) : Int)) := ⟨by rw [get_mpF, if_pos hix]⟩
          haveI : Fct (k < c.length) := ⟨by omega⟩
          repeat' (first
  | refine G_nilC ?_
  | refine G_nilN ?_
  | refine G_nilH ?_
  | (refine G_nil ?_; try clear ri_; try clear ops_)
  | (refine V_op ?_; first | exact True.intro | (intro v_ h_ w_ r_ t_; try (obtain ⟨ta_, tb_⟩ := (t_ : _ ∧ _)); try (obtain ⟨tb_, tc_⟩ := (tb_ : _ ∧ _)); try (obtain ⟨tc_, td_⟩ := (tc_ : _ ∧ _)); try (obtain ⟨td_, te_⟩ := (td_ : _ ∧ _))) | intro (ops_ : Array Oper) ri_ | intro (b_ : Bool) hb_ | (intro v_ h_; try (have o_ := FrzK.one h_)) | intro (v_ : Value) | intro (b_ : Nat) | (refine ⟨fun hc => ?_, fun hc => ?_⟩ <;> try (exfalso; omega)) | refine ⟨?_, ?_⟩ | intro _ | skip)
  | (refine Is_DQ ?_; first | (apply DQ_m rfl rfl rfl rfl; focus (intro wq_ Oq_ rq_ mm; (repeat (first | (refine G_nil ?_; exact X_done rfl (List.Sublist.refl _)) | refine V_op ?_)); done)) | (apply DQ_k rfl rfl rfl rfl; intro wq_ Oq_ rq_ mm) | (apply DQ_y rfl rfl rfl rfl; intro wq_ Oq_ rq_ mm)))
          exact At_roundS (k + 1, c.set k (ixD d (l[k]'hkl) : Int)) ⟨by simp only; omega, by simp only [List.length_set]; exact hcl, by
            simp only
            rw [take_set (by omega), htk, List.take_succ_eq_append_getElem (by rw [ixL, List.length_map]; exact hkl)]
            simp only [ixL, List.getElem_map], fun i hi hik => by
            by_cases e1 : i = k
            · subst e1; exact hix
            · exact hin i hi (by simp only at hik; omega)⟩ (by simp only; omega) (by repeat (first | exact trivial | refine And.intro rfl ?_)) (by repeat (first | exact trivial | refine And.intro rfl ?_))
        · haveI : Eqn (mGet (mpF 0 d) (l[k]'hkl)) none := ⟨by rw [get_mpF, if_neg hix]⟩
          obtain ⟨rfl, rfl⟩ : 4 = e ∧ [] = R := by rw [← h0.1, ← h0.2]; exact ⟨(cd_none hv hkl hix).1.symm, (cd_none hv hkl hix).2.symm⟩
          repeat' (first
  | refine G_nilC ?_
  | refine G_nilN ?_
  | refine G_nilH ?_
  | (refine G_nil ?_; try clear ri_; try clear ops_)
  | (refine V_op ?_; first | exact True.intro | (intro v_ h_ w_ r_ t_; try (obtain ⟨ta_, tb_⟩ := (t_ : _ ∧ _)); try (obtain ⟨tb_, tc_⟩ := (tb_ : _ ∧ _)); try (obtain ⟨tc_, td_⟩ := (tc_ : _ ∧ _)); try (obtain ⟨td_, te_⟩ := (td_ : _ ∧ _))) | intro (ops_ : Array Oper) ri_ | intro (b_ : Bool) hb_ | (intro v_ h_; try (have o_ := FrzK.one h_)) | intro (v_ : Value) | intro (b_ : Nat) | (refine ⟨fun hc => ?_, fun hc => ?_⟩ <;> try (exfalso; omega)) | refine ⟨?_, ?_⟩ | intro _ | skip)
  | (refine Is_DQ ?_; first | (apply DQ_m rfl rfl rfl rfl; focus (intro wq_ Oq_ rq_ mm; (repeat (first | (refine G_nil ?_; exact X_done rfl (List.Sublist.refl _)) | refine V_op ?_)); done)) | (apply DQ_k rfl rfl rfl rfl; intro wq_ Oq_ rq_ mm) | (apply DQ_y rfl rfl rfl rfl; intro wq_ Oq_ rq_ mm)))
          refine ret_ rfl (by repeat (first | exact ResAll.nil | (apply ResAll.cons; first | exact .tmp rfl | exact .cell rfl rfl | exact .one rfl))) fun w' h' => ?_
          exact .mk (.slice none 0 0) trivial rfl h'
      · obtain ⟨rfl, rfl⟩ : 0 = e ∧ ixL d l = R := by
          have := cd_ok (l := l) hv fun s hs => by
            obtain ⟨i, hi, rfl⟩ := List.mem_iff_getElem.1 hs
            exact hin i hi (by omega)
          rw [← h0.1, ← h0.2]; exact ⟨this.1.symm, this.2.symm⟩
        have hce : c = ixL d l := by
          rw [List.take_of_length_le (by omega), List.take_of_length_le (by rw [ixL, List.length_map]; omega)] at htk
          exact htk
        subst hce
        repeat' (first
  | refine G_nilC ?_
  | refine G_nilN ?_
  | refine G_nilH ?_
  | (refine G_nil ?_; try clear ri_; try clear ops_)
  | (refine V_op ?_; first | exact True.intro | (intro v_ h_ w_ r_ t_; try (obtain ⟨ta_, tb_⟩ := (t_ : _ ∧ _)); try (obtain ⟨tb_, tc_⟩ := (tb_ : _ ∧ _)); try (obtain ⟨tc_, td_⟩ := (tc_ : _ ∧ _)); try (obtain ⟨td_, te_⟩ := (td_ : _ ∧ _))) | intro (ops_ : Array Oper) ri_ | intro (b_ : Bool) hb_ | (intro v_ h_; try (have o_ := FrzK.one h_)) | intro (v_ : Value) | intro (b_ : Nat) | (refine ⟨fun hc => ?_, fun hc => ?_⟩ <;> try (exfalso; omega)) | refine ⟨?_, ?_⟩ | intro _ | skip)
  | (refine Is_DQ ?_; first | (apply DQ_m rfl rfl rfl rfl; focus (intro wq_ Oq_ rq_ mm; (repeat (first | (refine G_nil ?_; exact X_done rfl (List.Sublist.refl _)) | refine V_op ?_)); done)) | (apply DQ_k rfl rfl rfl rfl; intro wq_ Oq_ rq_ mm) | (apply DQ_y rfl rfl rfl rfl; intro wq_ Oq_ rq_ mm)))
        refine ret_ rfl (by repeat (first | exact ResAll.nil | (apply ResAll.cons; first | exact .tmp rfl | exact .cell rfl rfl | exact .one rfl))) fun w' h' => ?_
        exact .mk v_ trivial rfl h'
  · haveI : No (VaD d) := ⟨hv⟩
    obtain ⟨rfl, rfl⟩ : 1 = e ∧ [] = R := by rw [← h0.1, ← h0.2]; exact ⟨(cd_no hv).1.symm, (cd_no hv).2.symm⟩
    refine enter (N := 53) (args := [v, v']) Try.func29 rfl rfl rfl (St.refl w) ?_
    repeat' (first
  | refine G_nilC ?_
  | refine G_nilN ?_
  | refine G_nilH ?_
  | (refine G_nil ?_; try clear ri_; try clear ops_)
  | (refine V_op ?_; first | exact True.intro | (intro v_ h_ w_ r_ t_; try (obtain ⟨ta_, tb_⟩ := (t_ : _ ∧ _)); try (obtain ⟨tb_, tc_⟩ := (tb_ : _ ∧ _)); try (obtain ⟨tc_, td_⟩ := (tc_ : _ ∧ _)); try (obtain ⟨td_, te_⟩ := (td_ : _ ∧ _))) | intro (ops_ : Array Oper) ri_ | intro (b_ : Bool) hb_ | (intro v_ h_; try (have o_ := FrzK.one h_)) | intro (v_ : Value) | intro (b_ : Nat) | (refine ⟨fun hc => ?_, fun hc => ?_⟩ <;> try (exfalso; omega)) | refine ⟨?_, ?_⟩ | intro _ | skip)
  | (refine Is_DQ ?_; first | (apply DQ_m rfl rfl rfl rfl; focus (intro wq_ Oq_ rq_ mm; (repeat (first | (refine G_nil ?_; exact X_done rfl (List.Sublist.refl _)) | refine V_op ?_)); done)) | (apply DQ_k rfl rfl rfl rfl; intro wq_ Oq_ rq_ mm) | (apply DQ_y rfl rfl rfl rfl; intro wq_ Oq_ rq_ mm)))
    refine ret_ rfl (by repeat (first | exact ResAll.nil | (apply ResAll.cons; first | exact .tmp rfl | exact .cell rfl rfl | exact .one rfl))) fun w' h' => ?_
    exact .mk (.slice none 0 0) trivial rfl h'
theorem fnD_lt {d : List ByteArray} {s : ByteArray} (h : ixD d s < d.length) : fnD d s = (ixD d s : Int) := by rw [fnD, if_pos h]
theorem fnD_no {d : List ByteArray} {s : ByteArray} (h : ¬ ixD d s < d.length) : fnD d s = -1 := by rw [fnD, if_neg h]
theorem ref_CodesIn (w : World) (v v' : Value) (d l : List ByteArray) [h : RdOld w [] v d] [h' : RdOld w [] v' l] (hl : l.length ≤ 100000) (e : Int) (R : List Int) (h0 : cdE d l = e ∧ cdR d l = R) :
    Calls Try.prog 14 #[v, v'] w (Ret w [] (fun _ : Value => True) (fun r => .agg #[r, I e]) (fun r => [row r 3 R])) := by
  have hd := h.rd.len_le
  by_cases hv : VaD d
  · haveI : Yes (VaD d) := ⟨hv⟩
    refine enter (N := 34) (args := [v, v']) Try.func14 rfl rfl rfl (St.refl w) ?_
    repeat' (first
  | refine G_nilC ?_
  | refine G_nilN ?_
  | refine G_nilH ?_
  | (refine G_nil ?_; try clear ri_; try clear ops_)
  | (refine V_op ?_; first | exact True.intro | (intro v_ h_ w_ r_ t_; try (obtain ⟨ta_, tb_⟩ := (t_ : _ ∧ _)); try (obtain ⟨tb_, tc_⟩ := (tb_ : _ ∧ _)); try (obtain ⟨tc_, td_⟩ := (tc_ : _ ∧ _)); try (obtain ⟨td_, te_⟩ := (td_ : _ ∧ _))) | intro (ops_ : Array Oper) ri_ | intro (b_ : Bool) hb_ | (intro v_ h_; try (have o_ := FrzK.one h_)) | intro (v_ : Value) | intro (b_ : Nat) | (refine ⟨fun hc => ?_, fun hc => ?_⟩ <;> try (exfalso; omega)) | refine ⟨?_, ?_⟩ | intro _ | skip)
  | (refine Is_DQ ?_; first | (apply DQ_m rfl rfl rfl rfl; focus (intro wq_ Oq_ rq_ mm; (repeat (first | (refine G_nil ?_; exact X_done rfl (List.Sublist.refl _)) | refine V_op ?_)); done)) | (apply DQ_k rfl rfl rfl rfl; intro wq_ Oq_ rq_ mm) | (apply DQ_y rfl rfl rfl rfl; intro wq_ Oq_ rq_ mm)))
    refine GC_loopS (X := Nat × Value) (fun y => y.1 ≤ l.length ∧ ∀ i (hi : i < l.length), i < y.1 → ixD d l[i] < d.length) (fun y s => (6, I y.1) :: (5, y.2) :: s) (fun y q => row y.2 3 ((ixL d l).take y.1) :: q) (fun y => l.length - y.1) (0, _) ⟨Nat.zero_le _, fun i hi h => by simp only at h; omega⟩ (by repeat (first | exact trivial | refine And.intro rfl ?_)) ?_ (want := [row _ 3 ([] : List Int)]) (hm0 := rfl)
    rintro ⟨k, c⟩ ⟨hk2, hin⟩
    simp only at hk2 hin ⊢
    by_cases hkl : k < l.length
    · by_cases hix : ixD d (l[k]'hkl) < d.length
      · have hf := fnD_lt hix
        have htl : ((ixL d l).take k).length ≤ 100000 := by rw [List.length_take]; omega
        haveI : AppN ((ixL d l).take k) [fnD d (l[k]'hkl)] ((ixL d l).take (k + 1)) := ⟨by
          rw [hf, List.take_succ_eq_append_getElem (by rw [ixL, List.length_map]; exact hkl)]
          simp only [ixL, List.getElem_map]⟩
        repeat' (first
  | refine G_nilC ?_
  | refine G_nilN ?_
  | refine G_nilH ?_
  | (refine G_nil ?_; try clear ri_; try clear ops_)
  | (refine V_op ?_; first | exact True.intro | (intro v_ h_ w_ r_ t_; try (obtain ⟨ta_, tb_⟩ := (t_ : _ ∧ _)); try (obtain ⟨tb_, tc_⟩ := (tb_ : _ ∧ _)); try (obtain ⟨tc_, td_⟩ := (tc_ : _ ∧ _)); try (obtain ⟨td_, te_⟩ := (td_ : _ ∧ _))) | intro (ops_ : Array Oper) ri_ | intro (b_ : Bool) hb_ | (intro v_ h_; try (have o_ := FrzK.one h_)) | intro (v_ : Value) | intro (b_ : Nat) | (refine ⟨fun hc => ?_, fun hc => ?_⟩ <;> try (exfalso; omega)) | refine ⟨?_, ?_⟩ | intro _ | skip)
  | (refine Is_DQ ?_; first | (apply DQ_m rfl rfl rfl rfl; focus (intro wq_ Oq_ rq_ mm; (repeat (first | (refine G_nil ?_; exact X_done rfl (List.Sublist.refl _)) | refine V_op ?_)); done)) | (apply DQ_k rfl rfl rfl rfl; intro wq_ Oq_ rq_ mm) | (apply DQ_y rfl rfl rfl rfl; intro wq_ Oq_ rq_ mm)))
        exact At_roundS (k + 1, v_) ⟨by simp only; omega, fun i hi hik => by
          by_cases e1 : i = k
          · subst e1; exact hix
          · exact hin i hi (by simp only at hik; omega)⟩ (by simp only; omega) (by repeat (first | exact trivial | refine And.intro rfl ?_)) (by repeat (first | exact trivial | refine And.intro rfl ?_))
      · have hf := fnD_no hix
        obtain ⟨rfl, rfl⟩ : 4 = e ∧ [] = R := by rw [← h0.1, ← h0.2]; exact ⟨(cd_none hv hkl hix).1.symm, (cd_none hv hkl hix).2.symm⟩
        repeat' (first
  | refine G_nilC ?_
  | refine G_nilN ?_
  | refine G_nilH ?_
  | (refine G_nil ?_; try clear ri_; try clear ops_)
  | (refine V_op ?_; first | exact True.intro | (intro v_ h_ w_ r_ t_; try (obtain ⟨ta_, tb_⟩ := (t_ : _ ∧ _)); try (obtain ⟨tb_, tc_⟩ := (tb_ : _ ∧ _)); try (obtain ⟨tc_, td_⟩ := (tc_ : _ ∧ _)); try (obtain ⟨td_, te_⟩ := (td_ : _ ∧ _))) | intro (ops_ : Array Oper) ri_ | intro (b_ : Bool) hb_ | (intro v_ h_; try (have o_ := FrzK.one h_)) | intro (v_ : Value) | intro (b_ : Nat) | (refine ⟨fun hc => ?_, fun hc => ?_⟩ <;> try (exfalso; omega)) | refine ⟨?_, ?_⟩ | intro _ | skip)
  | (refine Is_DQ ?_; first | (apply DQ_m rfl rfl rfl rfl; focus (intro wq_ Oq_ rq_ mm; (repeat (first | (refine G_nil ?_; exact X_done rfl (List.Sublist.refl _)) | refine V_op ?_)); done)) | (apply DQ_k rfl rfl rfl rfl; intro wq_ Oq_ rq_ mm) | (apply DQ_y rfl rfl rfl rfl; intro wq_ Oq_ rq_ mm)))
        refine ret_ rfl (by repeat (first | exact ResAll.nil | (apply ResAll.cons; first | exact .tmp rfl | exact .cell rfl rfl | exact .one rfl))) fun w' h' => ?_
        exact .mk (.slice none 0 0) trivial rfl h'
    · obtain ⟨rfl, rfl⟩ : 0 = e ∧ ixL d l = R := by
        have := cd_ok (l := l) hv fun s hs => by
          obtain ⟨i, hi, rfl⟩ := List.mem_iff_getElem.1 hs
          exact hin i hi (by omega)
        rw [← h0.1, ← h0.2]; exact ⟨this.1.symm, this.2.symm⟩
      rw [List.take_of_length_le (by rw [ixL, List.length_map]; omega)]
      repeat' (first
  | refine G_nilC ?_
  | refine G_nilN ?_
  | refine G_nilH ?_
  | (refine G_nil ?_; try clear ri_; try clear ops_)
  | (refine V_op ?_; first | exact True.intro | (intro v_ h_ w_ r_ t_; try (obtain ⟨ta_, tb_⟩ := (t_ : _ ∧ _)); try (obtain ⟨tb_, tc_⟩ := (tb_ : _ ∧ _)); try (obtain ⟨tc_, td_⟩ := (tc_ : _ ∧ _)); try (obtain ⟨td_, te_⟩ := (td_ : _ ∧ _))) | intro (ops_ : Array Oper) ri_ | intro (b_ : Bool) hb_ | (intro v_ h_; try (have o_ := FrzK.one h_)) | intro (v_ : Value) | intro (b_ : Nat) | (refine ⟨fun hc => ?_, fun hc => ?_⟩ <;> try (exfalso; omega)) | refine ⟨?_, ?_⟩ | intro _ | skip)
  | (refine Is_DQ ?_; first | (apply DQ_m rfl rfl rfl rfl; focus (intro wq_ Oq_ rq_ mm; (repeat (first | (refine G_nil ?_; exact X_done rfl (List.Sublist.refl _)) | refine V_op ?_)); done)) | (apply DQ_k rfl rfl rfl rfl; intro wq_ Oq_ rq_ mm) | (apply DQ_y rfl rfl rfl rfl; intro wq_ Oq_ rq_ mm)))
      refine ret_ rfl (by repeat (first | exact ResAll.nil | (apply ResAll.cons; first | exact .tmp rfl | exact .cell rfl rfl | exact .one rfl))) fun w' h' => ?_
      exact .mk c trivial rfl h'
  · haveI : No (VaD d) := ⟨hv⟩
    obtain ⟨rfl, rfl⟩ : 1 = e ∧ [] = R := by rw [← h0.1, ← h0.2]; exact ⟨(cd_no hv).1.symm, (cd_no hv).2.symm⟩
    refine enter (N := 34) (args := [v, v']) Try.func14 rfl rfl rfl (St.refl w) ?_
    repeat' (first
  | refine G_nilC ?_
  | refine G_nilN ?_
  | refine G_nilH ?_
  | (refine G_nil ?_; try clear ri_; try clear ops_)
  | (refine V_op ?_; first | exact True.intro | (intro v_ h_ w_ r_ t_; try (obtain ⟨ta_, tb_⟩ := (t_ : _ ∧ _)); try (obtain ⟨tb_, tc_⟩ := (tb_ : _ ∧ _)); try (obtain ⟨tc_, td_⟩ := (tc_ : _ ∧ _)); try (obtain ⟨td_, te_⟩ := (td_ : _ ∧ _))) | intro (ops_ : Array Oper) ri_ | intro (b_ : Bool) hb_ | (intro v_ h_; try (have o_ := FrzK.one h_)) | intro (v_ : Value) | intro (b_ : Nat) | (refine ⟨fun hc => ?_, fun hc => ?_⟩ <;> try (exfalso; omega)) | refine ⟨?_, ?_⟩ | intro _ | skip)
  | (refine Is_DQ ?_; first | (apply DQ_m rfl rfl rfl rfl; focus (intro wq_ Oq_ rq_ mm; (repeat (first | (refine G_nil ?_; exact X_done rfl (List.Sublist.refl _)) | refine V_op ?_)); done)) | (apply DQ_k rfl rfl rfl rfl; intro wq_ Oq_ rq_ mm) | (apply DQ_y rfl rfl rfl rfl; intro wq_ Oq_ rq_ mm)))
    refine ret_ rfl (by repeat (first | exact ResAll.nil | (apply ResAll.cons; first | exact .tmp rfl | exact .cell rfl rfl | exact .one rfl))) fun w' h' => ?_
    exact .mk (.slice none 0 0) trivial rfl h'
section
variable {w0 : World} {O : List Nat} {m : List As} {v v' : Value} {d l : List ByteArray} {e : Int} {R : List Int}
instance [h1 : RdR w0 O m v d] [h2 : RdR w0 O m v' l] [he : Eqn (cdE d l) e] [hb : Eqn (cdR d l) R] : CallR Try.prog w0 O m 29 [v, v'] (l.length ≤ 100000) (fun _ : Value => True) (fun r => .tuple #[r, I e]) (fun r => row r 3 R :: m) :=
  .new1 (M := fun r => row r _ R) fun hs w hw => @run_Codes w v v' d l (RdOld.of (h1.rd w hw)) (RdOld.of (h2.rd w hw)) hs e R ⟨he.eq, hb.eq⟩
instance [h1 : RdR w0 O m v d] [h2 : RdR w0 O m v' l] [he : Eqn (cdE d l) e] [hb : Eqn (cdR d l) R] : CallR Try.prog w0 O m 14 [v, v'] (l.length ≤ 100000) (fun _ : Value => True) (fun r => .agg #[r, I e]) (fun r => row r 3 R :: m) :=
  .new1 (M := fun r => row r _ R) fun hs w hw => @ref_CodesIn w v v' d l (RdOld.of (h1.rd w hw)) (RdOld.of (h2.rd w hw)) hs e R ⟨he.eq, hb.eq⟩
end
theorem law_codes (w : World) (v v' : Value) (d l : List ByteArray) [h : RdOld w [] v d] [h' : RdOld w [] v' l] (hl : l.length ≤ 100000) (e : Int) (R : List Int) (h0 : cdE d l = e ∧ cdR d l = R) :
    Calls Try.prog 13 #[v, v'] w (Ret w [] (fun _ : Value => True) (fun r => .agg #[r, I e]) (fun r => [row r 3 R])) := by
  haveI : Eqn (cdE d l) e := ⟨h0.1⟩
  haveI : Eqn (cdR d l) R := ⟨h0.2⟩
  refine enter (N := 16) (args := [v, v']) Try.func13 rfl rfl rfl (St.refl w) ?_
  repeat' (first
  | refine G_nilC ?_
  | refine G_nilN ?_
  | refine G_nilH ?_
  | (refine G_nil ?_; try clear ri_; try clear ops_)
  | (refine V_op ?_; first | exact True.intro | (intro v_ h_ w_ r_ t_; try (obtain ⟨ta_, tb_⟩ := (t_ : _ ∧ _)); try (obtain ⟨tb_, tc_⟩ := (tb_ : _ ∧ _)); try (obtain ⟨tc_, td_⟩ := (tc_ : _ ∧ _)); try (obtain ⟨td_, te_⟩ := (td_ : _ ∧ _))) | intro (ops_ : Array Oper) ri_ | intro (b_ : Bool) hb_ | (intro v_ h_; try (have o_ := FrzK.one h_)) | intro (v_ : Value) | intro (b_ : Nat) | (refine ⟨fun hc => ?_, fun hc => ?_⟩ <;> try (exfalso; omega)) | refine ⟨?_, ?_⟩ | intro _ | skip)
  | (refine Is_DQ ?_; first | (apply DQ_m rfl rfl rfl rfl; focus (intro wq_ Oq_ rq_ mm; (repeat (first | (refine G_nil ?_; exact X_done rfl (List.Sublist.refl _)) | refine V_op ?_)); done)) | (apply DQ_k rfl rfl rfl rfl; intro wq_ Oq_ rq_ mm) | (apply DQ_y rfl rfl rfl rfl; intro wq_ Oq_ rq_ mm)))
  refine ret_ rfl (by repeat (first | exact ResAll.nil | (apply ResAll.cons; first | exact .tmp rfl | exact .cell rfl rfl | exact .one rfl))) fun w' h' => ?_
  exact .mk _ trivial rfl h'
section
variable {w0 : World} {O : List Nat} {m : List As} {v v' : Value} {d l : List ByteArray} {e : Int} {R : List Int}
instance [h1 : RdR w0 O m v d] [h2 : RdR w0 O m v' l] [he : Eqn (cdE d l) e] [hb : Eqn (cdR d l) R] : CallR Try.prog w0 O m 13 [v, v'] (l.length ≤ 100000) (fun _ : Value => True) (fun r => .agg #[r, I e]) (fun r => row r 3 R :: m) :=
  .new1 (M := fun r => row r _ R) fun hs w hw => @law_codes w v v' d l (RdOld.of (h1.rd w hw)) (RdOld.of (h2.rd w hw)) hs e R ⟨he.eq, hb.eq⟩
end
end Go.Proofs.Ytnncjfphdcfimaa
