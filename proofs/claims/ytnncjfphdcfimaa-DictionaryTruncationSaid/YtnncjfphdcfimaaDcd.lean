/- Dictionary: Strings, packed forms. -/
import Derived.Test.YtnncjfphdcfimaaDcc
set_option linter.unusedVariables false
set_option linter.unusedSimpArgs false
set_option maxRecDepth 100000
set_option maxHeartbeats 4000000
namespace Go.Proofs.Ytnncjfphdcfimaa
open Go.RowKit
attribute [local irreducible] G GC At wpL DR XPost CPost Cut GA GAR GAX GAt NxA GH GHR NxH
attribute [local irreducible] ofD srtL cmpL

open Classical in
/-- strings of codes: the error -/
noncomputable def stE (d : List ByteArray) (cs : List Int) : Int := if VaD d ∧ ∀ c ∈ cs, 0 ≤ c ∧ c < d.length then 0 else 1
def stL (d : List ByteArray) (cs : List Int) : List ByteArray := cs.map fun c => d.getD c.toNat ⟨#[]⟩
noncomputable def stR (d : List ByteArray) (cs : List Int) : List ByteArray := if stE d cs = 0 then stL d cs else []
theorem st_no {d : List ByteArray} {cs : List Int} (h : ¬ (VaD d ∧ ∀ c ∈ cs, 0 ≤ c ∧ c < d.length)) : stE d cs = 1 ∧ stR d cs = [] := by
  have e : stE d cs = 1 := by rw [stE, if_neg h]
  exact ⟨e, by rw [stR, e, if_neg (by decide)]⟩
theorem st_ok {d : List ByteArray} {cs : List Int} (h : VaD d) (h' : ∀ c ∈ cs, 0 ≤ c ∧ c < d.length) : stE d cs = 0 ∧ stR d cs = stL d cs := by
  have e : stE d cs = 0 := by rw [stE, if_pos ⟨h, h'⟩]
  exact ⟨e, by rw [stR, e, if_pos rfl]⟩

theorem getD_at {α : Type} {l : List α} {n : Nat} {x : α} (h : n < l.length) : l.getD n x = l[n] := by simp [List.getD, List.getElem?_eq_getElem h]
/-- the closure: a code that is none -/
theorem run_out (w0 : World) (O : List Nat) (m : List As) (b : Nat) (dv : Value) (d : List ByteArray) (c : Int) [h : RdOld w0 O dv d] (w : World) (hw : St w0 O (.box b (.cells #[dv] 23) :: m) w) :
    Calls Try.prog 40 #[I c, .pointer (some ⟨b, 0, none⟩)] w (fun y w' => ∃ _ : Unit, True ∧ y = .returned (.bool (decide (c < 0 ∨ (d.length : Int) ≤ c))) ∧ St w0 O (.box b (.cells #[dv] 23) :: m) w') := by
  refine enterF (N := 12) (args := [I c, .pointer (some ⟨b, 0, none⟩)]) Try.func40 rfl rfl rfl hw ?_
  repeat' (first
  | refine G_nilC ?_
  | refine G_nilN ?_
  | refine G_nilH ?_
  | (refine G_nil ?_; try clear ri_; try clear ops_)
  | (refine V_op ?_; first | exact True.intro | (intro v_ h_ w_ r_ t_; try (obtain ⟨ta_, tb_⟩ := (t_ : _ ∧ _)); try (obtain ⟨tb_, tc_⟩ := (tb_ : _ ∧ _)); try (obtain ⟨tc_, td_⟩ := (tc_ : _ ∧ _)); try (obtain ⟨td_, te_⟩ := (td_ : _ ∧ _))) | intro (ops_ : Array Oper) ri_ | intro (b_ : Bool) hb_ | (intro v_ h_; try (have o_ := FrzK.one h_)) | intro (v_ : Value) | intro (b_ : Nat) | (refine ⟨fun hc => ?_, fun hc => ?_⟩ <;> try (exfalso; omega)) | refine ⟨?_, ?_⟩ | intro _ | skip)
  | (refine Is_DQ ?_; first | (apply DQ_m rfl rfl rfl rfl; focus (intro wq_ Oq_ rq_ mm; (repeat (first | (refine G_nil ?_; exact X_done rfl (List.Sublist.refl _)) | refine V_op ?_)); done)) | (apply DQ_k rfl rfl rfl rfl; intro wq_ Oq_ rq_ mm) | (apply DQ_y rfl rfl rfl rfl; intro wq_ Oq_ rq_ mm)))
  · refine ret_ rfl (by repeat (first | exact ResAll.nil | (apply ResAll.cons; first | exact .tmp rfl | exact .cell rfl rfl | exact .one rfl))) fun w' h' => ?_
    exact ⟨(), trivial, by rw [decide_eq_true (.inl hc : c < 0 ∨ (d.length : Int) ≤ c)], SubM.ent.st h'⟩
  · refine ret_ rfl (by repeat (first | exact ResAll.nil | (apply ResAll.cons; first | exact .tmp rfl | exact .cell rfl rfl | exact .one rfl))) fun w' h' => ?_
    exact ⟨(), trivial, congrArg (fun b => Ending.returned (Value.bool b)) (decide_eq_decide.2 ⟨.inr, fun h => h.resolve_left hc⟩), SubM.ent.st h'⟩
section
variable {w0 : World} {O : List Nat} {m mk : List As} {b : Nat} {dv v : Value} {d : List ByteArray} {c : Int} {cs : List Int}
instance [hb : BoxR b m (.cells #[dv] 23) mk] [h : RdOld w0 O dv d] : CallR Try.prog w0 O m 40 [.int .i64 c, .pointer (some ⟨b, 0, none⟩)] True (fun _ : Unit => True) (fun _ => .bool (decide (c < 0 ∨ (d.length : Int) ≤ c))) (fun _ => .box b (.cells #[dv] 23) :: mk) :=
  ⟨fun _ w hw => run_out w0 O mk b dv d c w (hb.ent.st hw)⟩
theorem lib_Index (w0 : World) (O : List Nat) (m : List As) (b : Nat) (dv v : Value) (d : List ByteArray) (cs : List Int) [h : RdOld w0 O dv d] [h' : RdOld w0 O v cs] (w : World) (hw : St w0 O (.box b (.cells #[dv] 23) :: m) w) :
    Calls Try.prog 47 #[v, .func (.func 40) #[] #[.pointer (some ⟨b, 0, none⟩)]] w (fun y w' => ∃ r : Int, (0 ≤ r ↔ ∃ c ∈ cs, c < 0 ∨ (d.length : Int) ≤ c) ∧ y = .returned (I r) ∧ St w0 O (.box b (.cells #[dv] 23) :: m) w') := by
  have hl := h'.rd.len_le
  refine enterF (N := 19) (args := [v, .func (.func 40) #[] #[.pointer (some ⟨b, 0, none⟩)]]) Try.func47 rfl rfl rfl hw ?_
  repeat' (first
  | refine G_nilC ?_
  | refine G_nilN ?_
  | refine G_nilH ?_
  | (refine G_nil ?_; try clear ri_; try clear ops_)
  | (refine V_op ?_; first | exact True.intro | (intro v_ h_ w_ r_ t_; try (obtain ⟨ta_, tb_⟩ := (t_ : _ ∧ _)); try (obtain ⟨tb_, tc_⟩ := (tb_ : _ ∧ _)); try (obtain ⟨tc_, td_⟩ := (tc_ : _ ∧ _)); try (obtain ⟨td_, te_⟩ := (td_ : _ ∧ _))) | intro (ops_ : Array Oper) ri_ | intro (b_ : Bool) hb_ | (intro v_ h_; try (have o_ := FrzK.one h_)) | intro (v_ : Value) | intro (b_ : Nat) | (refine ⟨fun hc => ?_, fun hc => ?_⟩ <;> try (exfalso; omega)) | refine ⟨?_, ?_⟩ | intro _ | skip)
  | (refine Is_DQ ?_; first | (apply DQ_m rfl rfl rfl rfl; focus (intro wq_ Oq_ rq_ mm; (repeat (first | (refine G_nil ?_; exact X_done rfl (List.Sublist.refl _)) | refine V_op ?_)); done)) | (apply DQ_k rfl rfl rfl rfl; intro wq_ Oq_ rq_ mm) | (apply DQ_y rfl rfl rfl rfl; intro wq_ Oq_ rq_ mm)))
  refine GC_loopS (X := Nat) (fun k => k ≤ cs.length ∧ ∀ i (hi : i < cs.length), i < k → ¬ (cs[i] < 0 ∨ (d.length : Int) ≤ cs[i])) (fun k s => (8, I k) :: s) (fun _ q => q) (fun k => cs.length - k) 0 ⟨Nat.zero_le _, fun i hi h => by omega⟩ (by repeat (first | exact trivial | refine And.intro rfl ?_)) ?_
  rintro k ⟨hk, hin⟩
  repeat' (first
  | refine G_nilC ?_
  | refine G_nilN ?_
  | refine G_nilH ?_
  | (refine G_nil ?_; try clear ri_; try clear ops_)
  | (refine V_op ?_; first | exact True.intro | (intro v_ h_ w_ r_ t_; try (obtain ⟨ta_, tb_⟩ := (t_ : _ ∧ _)); try (obtain ⟨tb_, tc_⟩ := (tb_ : _ ∧ _)); try (obtain ⟨tc_, td_⟩ := (tc_ : _ ∧ _)); try (obtain ⟨td_, te_⟩ := (td_ : _ ∧ _))) | intro (ops_ : Array Oper) ri_ | intro (b_ : Bool) hb_ | (intro v_ h_; try (have o_ := FrzK.one h_)) | intro (v_ : Value) | intro (b_ : Nat) | (refine ⟨fun hc => ?_, fun hc => ?_⟩ <;> try (exfalso; omega)) | refine ⟨?_, ?_⟩ | intro _ | skip)
  | (refine Is_DQ ?_; first | (apply DQ_m rfl rfl rfl rfl; focus (intro wq_ Oq_ rq_ mm; (repeat (first | (refine G_nil ?_; exact X_done rfl (List.Sublist.refl _)) | refine V_op ?_)); done)) | (apply DQ_k rfl rfl rfl rfl; intro wq_ Oq_ rq_ mm) | (apply DQ_y rfl rfl rfl rfl; intro wq_ Oq_ rq_ mm)))
  · refine ret_ rfl (by repeat (first | exact ResAll.nil | (apply ResAll.cons; first | exact .tmp rfl | exact .cell rfl rfl | exact .one rfl))) fun w' h' => ?_
    exact ⟨k, ⟨fun _ => ⟨_, List.getElem_mem (by omega), hc⟩, fun _ => by omega⟩, rfl, SubM.ent.st h'⟩
  · exact At_roundS (k + 1) ⟨by omega, fun i hi hik => by
      by_cases e : i = k
      · subst e; exact hc
      · exact hin i hi (by omega)⟩ (by omega) (by repeat (first | exact trivial | refine And.intro rfl ?_)) (by repeat (first | exact trivial | refine And.intro rfl ?_))
  · refine ret_ rfl (by repeat (first | exact ResAll.nil | (apply ResAll.cons; first | exact .tmp rfl | exact .cell rfl rfl | exact .one rfl))) fun w' h' => ?_
    exact ⟨-1, ⟨fun h => by omega, fun ⟨c, hc1, hc2⟩ => by
      obtain ⟨i, hi, rfl⟩ := List.mem_iff_getElem.1 hc1
      exact absurd hc2 (hin i hi (by omega))⟩, rfl, SubM.ent.st h'⟩
instance [hb : BoxR b m (.cells #[dv] 23) mk] [h : RdOld w0 O dv d] [h' : RdOld w0 O v cs] : CallR Try.prog w0 O m 47 [v, .func (.func 40) #[] #[.pointer (some ⟨b, 0, none⟩)]] True (fun r : Int => (0 ≤ r ↔ ∃ c ∈ cs, c < 0 ∨ (d.length : Int) ≤ c)) (fun r => I r) (fun _ => .box b (.cells #[dv] 23) :: mk) :=
  ⟨fun _ w hw => lib_Index w0 O mk b dv v d cs w (hb.ent.st hw)⟩
theorem lib_Contains (w0 : World) (O : List Nat) (m : List As) (b : Nat) (dv v : Value) (d : List ByteArray) (cs : List Int) [h : RdOld w0 O dv d] [h' : RdOld w0 O v cs] (w : World) (hw : St w0 O (.box b (.cells #[dv] 23) :: m) w) :
    Calls Try.prog 39 #[v, .func (.func 40) #[] #[.pointer (some ⟨b, 0, none⟩)]] w (fun y w' => ∃ r : Bool, (r = true ↔ ∃ c ∈ cs, c < 0 ∨ (d.length : Int) ≤ c) ∧ y = .returned (.bool r) ∧ St w0 O (.box b (.cells #[dv] 23) :: m) w') := by
  refine enterF (N := 9) (args := [v, .func (.func 40) #[] #[.pointer (some ⟨b, 0, none⟩)]]) Try.func39 rfl rfl rfl hw ?_
  repeat' (first
  | refine G_nilC ?_
  | refine G_nilN ?_
  | refine G_nilH ?_
  | (refine G_nil ?_; try clear ri_; try clear ops_)
  | (refine V_op ?_; first | exact True.intro | (intro v_ h_ w_ r_ t_; try (obtain ⟨ta_, tb_⟩ := (t_ : _ ∧ _)); try (obtain ⟨tb_, tc_⟩ := (tb_ : _ ∧ _)); try (obtain ⟨tc_, td_⟩ := (tc_ : _ ∧ _)); try (obtain ⟨td_, te_⟩ := (td_ : _ ∧ _))) | intro (ops_ : Array Oper) ri_ | intro (b_ : Bool) hb_ | (intro v_ h_; try (have o_ := FrzK.one h_)) | intro (v_ : Value) | intro (b_ : Nat) | (refine ⟨fun hc => ?_, fun hc => ?_⟩ <;> try (exfalso; omega)) | refine ⟨?_, ?_⟩ | intro _ | skip)
  | (refine Is_DQ ?_; first | (apply DQ_m rfl rfl rfl rfl; focus (intro wq_ Oq_ rq_ mm; (repeat (first | (refine G_nil ?_; exact X_done rfl (List.Sublist.refl _)) | refine V_op ?_)); done)) | (apply DQ_k rfl rfl rfl rfl; intro wq_ Oq_ rq_ mm) | (apply DQ_y rfl rfl rfl rfl; intro wq_ Oq_ rq_ mm)))
  refine ret_ rfl (by repeat (first | exact ResAll.nil | (apply ResAll.cons; first | exact .tmp rfl | exact .cell rfl rfl | exact .one rfl))) fun w' h' => ?_
  exact ⟨decide (0 ≤ v_), by rw [decide_eq_true_eq]; exact h_, rfl, SubM.ent.st h'⟩
instance [hb : BoxR b m (.cells #[dv] 23) mk] [h : RdOld w0 O dv d] [h' : RdOld w0 O v cs] : CallR Try.prog w0 O m 39 [v, .func (.func 40) #[] #[.pointer (some ⟨b, 0, none⟩)]] True (fun r : Bool => (r = true ↔ ∃ c ∈ cs, c < 0 ∨ (d.length : Int) ≤ c)) (fun r => .bool r) (fun _ => .box b (.cells #[dv] 23) :: mk) :=
  ⟨fun _ w hw => lib_Contains w0 O mk b dv v d cs w (hb.ent.st hw)⟩
end
theorem run_Strings (w : World) (v v' : Value) (d : List ByteArray) (cs : List Int) [h : RdOld w [] v d] [h' : RdOld w [] v' cs] (hl : cs.length ≤ 100000) (e : Int) (R : List ByteArray) (h0 : stE d cs = e ∧ stR d cs = R) :
    Calls Try.prog 30 #[v, v'] w (Ret w [] (fun _ : Value => True) (fun r => .tuple #[r, I e]) (fun r => [row r 9 R])) := by
  have hd := h.rd.len_le
  refine enter (N := 36) (args := [v, v']) Try.func30 rfl rfl rfl (St.refl w) ?_
  repeat' (first
  | refine G_nilC ?_
  | refine G_nilN ?_
  | refine G_nilH ?_
  | (refine G_nil ?_; try clear ri_; try clear ops_)
  | (refine V_op ?_; first | exact True.intro | (intro v_ h_ w_ r_ t_; try (obtain ⟨ta_, tb_⟩ := (t_ : _ ∧ _)); try (obtain ⟨tb_, tc_⟩ := (tb_ : _ ∧ _)); try (obtain ⟨tc_, td_⟩ := (tc_ : _ ∧ _)); try (obtain ⟨td_, te_⟩ := (td_ : _ ∧ _))) | intro (ops_ : Array Oper) ri_ | intro (b_ : Bool) hb_ | (intro v_ h_; try (have o_ := FrzK.one h_)) | intro (v_ : Value) | intro (b_ : Nat) | (refine ⟨fun hc => ?_, fun hc => ?_⟩ <;> try (exfalso; omega)) | refine ⟨?_, ?_⟩ | intro _ | skip)
  | (refine Is_DQ ?_; first | (apply DQ_m rfl rfl rfl rfl; focus (intro wq_ Oq_ rq_ mm; (repeat (first | (refine G_nil ?_; exact X_done rfl (List.Sublist.refl _)) | refine V_op ?_)); done)) | (apply DQ_k rfl rfl rfl rfl; intro wq_ Oq_ rq_ mm) | (apply DQ_y rfl rfl rfl rfl; intro wq_ Oq_ rq_ mm)))
  · obtain ⟨rfl, rfl⟩ : 1 = e ∧ [] = R := by rw [← h0.1, ← h0.2]; exact ⟨(st_no fun h => hc h.1).1.symm, (st_no fun h => hc h.1).2.symm⟩
    refine ret_ rfl (by repeat (first | exact ResAll.nil | (apply ResAll.cons; first | exact .tmp rfl | exact .cell rfl rfl | exact .one rfl))) fun w' h' => ?_
    exact .mk (.slice none 0 0) trivial rfl h'
  · have hn : ¬ (VaD d ∧ ∀ c ∈ cs, 0 ≤ c ∧ c < d.length) := fun h => by
      obtain ⟨c, h1, h2⟩ := hb_.1 hc
      have := h.2 c h1
      omega
    obtain ⟨rfl, rfl⟩ : 1 = e ∧ [] = R := by rw [← h0.1, ← h0.2]; exact ⟨(st_no hn).1.symm, (st_no hn).2.symm⟩
    refine ret_ rfl (by repeat (first | exact ResAll.nil | (apply ResAll.cons; first | exact .tmp rfl | exact .cell rfl rfl | exact .one rfl))) fun w' h' => ?_
    exact .mk (.slice none 0 0) trivial rfl h'
  · have hall : ∀ c ∈ cs, 0 ≤ c ∧ c < d.length := fun c h1 => by
      by_cases h2 : 0 ≤ c ∧ c < d.length
      · exact h2
      · exact absurd (hb_.2 ⟨c, h1, by omega⟩) hc
    obtain ⟨rfl, rfl⟩ : 0 = e ∧ stL d cs = R := by
      have hv : VaD d := by first | assumption | exact Decidable.not_not.1 (by assumption)
      rw [← h0.1, ← h0.2]; exact ⟨(st_ok hv hall).1.symm, (st_ok hv hall).2.symm⟩
    refine GC_loopS (X := Nat × List ByteArray) (fun y => y.1 ≤ cs.length ∧ y.2.length = cs.length ∧ y.2.take y.1 = (stL d cs).take y.1) (fun y s => (22, I y.1) :: s) (fun y q => row v_ 9 y.2 :: q) (fun y => cs.length - y.1) (0, List.replicate cs.length ⟨#[]⟩) ⟨Nat.zero_le _, List.length_replicate, by simp⟩ (by repeat (first | exact trivial | refine And.intro rfl ?_)) ?_ (want := [row v_ 9 (List.replicate cs.length (⟨#[]⟩ : ByteArray))]) (hm0 := rfl)
    rintro ⟨k, c⟩ ⟨hk, hcl, htk⟩
    simp only at hk hcl htk ⊢
    by_cases hkl : k < cs.length
    · have hck := hall _ (List.getElem_mem hkl)
      haveI : Fct (k < c.length) := ⟨by omega⟩
      repeat' (first
  | refine G_nilC ?_
  | refine G_nilN ?_
  | refine G_nilH ?_
  | (refine G_nil ?_; try clear ri_; try clear ops_)
  | (refine V_op ?_; first | exact True.intro | (intro v_ h_ w_ r_ t_; try (obtain ⟨ta_, tb_⟩ := (t_ : _ ∧ _)); try (obtain ⟨tb_, tc_⟩ := (tb_ : _ ∧ _)); try (obtain ⟨tc_, td_⟩ := (tc_ : _ ∧ _)); try (obtain ⟨td_, te_⟩ := (td_ : _ ∧ _))) | intro (ops_ : Array Oper) ri_ | intro (b_ : Bool) hb_ | (intro v_ h_; try (have o_ := FrzK.one h_)) | intro (v_ : Value) | intro (b_ : Nat) | (refine ⟨fun hc => ?_, fun hc => ?_⟩ <;> try (exfalso; omega)) | refine ⟨?_, ?_⟩ | intro _ | skip)
  | (refine Is_DQ ?_; first | (apply DQ_m rfl rfl rfl rfl; focus (intro wq_ Oq_ rq_ mm; (repeat (first | (refine G_nil ?_; exact X_done rfl (List.Sublist.refl _)) | refine V_op ?_)); done)) | (apply DQ_k rfl rfl rfl rfl; intro wq_ Oq_ rq_ mm) | (apply DQ_y rfl rfl rfl rfl; intro wq_ Oq_ rq_ mm)))
      exact At_roundS (k + 1, c.set k (d[(cs[k]'hkl).toNat]'(by omega))) ⟨by simp only; omega, by simp only [List.length_set]; exact hcl, by
        simp only
        rw [take_set (by omega), htk, List.take_succ_eq_append_getElem (by rw [stL, List.length_map]; exact hkl)]
        simp only [stL, List.getElem_map]
        rw [getD_at (by omega)]⟩ (by simp only; omega) (by repeat (first | exact trivial | refine And.intro rfl ?_)) (by repeat (first | exact trivial | refine And.intro rfl ?_))
    · have hce : c = stL d cs := by
        rw [List.take_of_length_le (by omega), List.take_of_length_le (by rw [stL, List.length_map]; omega)] at htk
        exact htk
      subst hce
      repeat' (first
  | refine G_nilC ?_
  | refine G_nilN ?_
  | refine G_nilH ?_
  | (refine G_nil ?_; try clear ri_; try clear ops_)
  | (refine V_op ?_; first | exact True.intro | (intro v_ h_ w_ r_ t_; try (obtain ⟨ta_, tb_⟩ := (t_ : _ ∧ _)); try (obtain ⟨tb_, tc_⟩ := (tb_ : _ ∧ _)); try (obtain ⟨tc_, td_⟩ := (tc_ : _ ∧ _)); try (obtain ⟨td_, te_⟩ := (td_ : _ ∧ _))) | intro (ops_ : Array Oper) ri_ | intro (b_ : Bool) hb_ | (intro v_ h_; try (have o_ := FrzK.one h_)) | intro (v_ : Value) | intro (b_ : Nat) | (refine ⟨fun hc => ?_, fun hc => ?_⟩ <;> try (exfalso; omega)) | refine ⟨?_, ?_⟩ | intro _ | skip)
  | (refine Is_DQ ?_; first | (apply DQ_m rfl rfl rfl rfl; focus (intro wq_ Oq_ rq_ mm; (repeat (first | (refine G_nil ?_; exact X_done rfl (List.Sublist.refl _)) | refine V_op ?_)); done)) | (apply DQ_k rfl rfl rfl rfl; intro wq_ Oq_ rq_ mm) | (apply DQ_y rfl rfl rfl rfl; intro wq_ Oq_ rq_ mm)))
      refine ret_ rfl (by repeat (first | exact ResAll.nil | (apply ResAll.cons; first | exact .tmp rfl | exact .cell rfl rfl | exact .one rfl))) fun w' h' => ?_
      exact .mk v_ trivial rfl h'
theorem ref_StringsIn (w : World) (v v' : Value) (d : List ByteArray) (cs : List Int) [h : RdOld w [] v d] [h' : RdOld w [] v' cs] (hl : cs.length ≤ 100000) (e : Int) (R : List ByteArray) (h0 : stE d cs = e ∧ stR d cs = R) :
    Calls Try.prog 16 #[v, v'] w (Ret w [] (fun _ : Value => True) (fun r => .agg #[r, I e]) (fun r => [row r 9 R])) := by
  have hd := h.rd.len_le
  refine enter (N := 45) (args := [v, v']) Try.func16 rfl rfl rfl (St.refl w) ?_
  repeat' (first
  | refine G_nilC ?_
  | refine G_nilN ?_
  | refine G_nilH ?_
  | (refine G_nil ?_; try clear ri_; try clear ops_)
  | (refine V_op ?_; first | exact True.intro | (intro v_ h_ w_ r_ t_; try (obtain ⟨ta_, tb_⟩ := (t_ : _ ∧ _)); try (obtain ⟨tb_, tc_⟩ := (tb_ : _ ∧ _)); try (obtain ⟨tc_, td_⟩ := (tc_ : _ ∧ _)); try (obtain ⟨td_, te_⟩ := (td_ : _ ∧ _))) | intro (ops_ : Array Oper) ri_ | intro (b_ : Bool) hb_ | (intro v_ h_; try (have o_ := FrzK.one h_)) | intro (v_ : Value) | intro (b_ : Nat) | (refine ⟨fun hc => ?_, fun hc => ?_⟩ <;> try (exfalso; omega)) | refine ⟨?_, ?_⟩ | intro _ | skip)
  | (refine Is_DQ ?_; first | (apply DQ_m rfl rfl rfl rfl; focus (intro wq_ Oq_ rq_ mm; (repeat (first | (refine G_nil ?_; exact X_done rfl (List.Sublist.refl _)) | refine V_op ?_)); done)) | (apply DQ_k rfl rfl rfl rfl; intro wq_ Oq_ rq_ mm) | (apply DQ_y rfl rfl rfl rfl; intro wq_ Oq_ rq_ mm)))
  refine GC_loopS (X := Nat × Value) (fun y => y.1 ≤ cs.length ∧ ∀ i (hi : i < cs.length), i < y.1 → 0 ≤ cs[i] ∧ cs[i] < d.length) (fun y s => (6, I y.1) :: (5, y.2) :: s) (fun y q => row y.2 9 ((stL d cs).take y.1) :: q) (fun y => cs.length - y.1) (0, _) ⟨Nat.zero_le _, fun i hi h => by simp only at h; omega⟩ (by repeat (first | exact trivial | refine And.intro rfl ?_)) ?_ (want := [row _ 9 ([] : List ByteArray)]) (hm0 := rfl)
  rintro ⟨k, c⟩ ⟨hk, hin⟩
  simp only at hk hin ⊢
  by_cases hkl : k < cs.length
  · by_cases hck : 0 ≤ cs[k]'hkl ∧ cs[k]'hkl < d.length
    · obtain ⟨hc1, hc2⟩ := hck
      have htl : ((stL d cs).take k).length ≤ 100000 := by rw [List.length_take]; omega
      haveI : AppN ((stL d cs).take k) [d[(cs[k]'hkl).toNat]'(by omega)] ((stL d cs).take (k + 1)) := ⟨by
        rw [List.take_succ_eq_append_getElem (by rw [stL, List.length_map]; exact hkl)]
        simp only [stL, List.getElem_map]
        rw [getD_at (by omega)]⟩
      repeat' (first
  | refine G_nilC ?_
  | refine G_nilN ?_
  | refine G_nilH ?_
  | (refine G_nil ?_; try clear ri_; try clear ops_)
  | (refine V_op ?_; first | exact True.intro | (intro v_ h_ w_ r_ t_; try (obtain ⟨ta_, tb_⟩ := (t_ : _ ∧ _)); try (obtain ⟨tb_, tc_⟩ := (tb_ : _ ∧ _)); try (obtain ⟨tc_, td_⟩ := (tc_ : _ ∧ _)); try (obtain ⟨td_, te_⟩ := (td_ : _ ∧ _))) | intro (ops_ : Array Oper) ri_ | intro (b_ : Bool) hb_ | (intro v_ h_; try (have o_ := FrzK.one h_)) | intro (v_ : Value) | intro (b_ : Nat) | (refine ⟨fun hc => ?_, fun hc => ?_⟩ <;> try (exfalso; omega)) | refine ⟨?_, ?_⟩ | intro _ | skip)
  | (refine Is_DQ ?_; first | (apply DQ_m rfl rfl rfl rfl; focus (intro wq_ Oq_ rq_ mm; (repeat (first | (refine G_nil ?_; exact X_done rfl (List.Sublist.refl _)) | refine V_op ?_)); done)) | (apply DQ_k rfl rfl rfl rfl; intro wq_ Oq_ rq_ mm) | (apply DQ_y rfl rfl rfl rfl; intro wq_ Oq_ rq_ mm)))
      exact At_roundS (k + 1, v_) ⟨by simp only; omega, fun i hi hik => by
        by_cases e1 : i = k
        · subst e1; exact ⟨hc1, hc2⟩
        · exact hin i hi (by simp only at hik; omega)⟩ (by simp only; omega) (by repeat (first | exact trivial | refine And.intro rfl ?_)) (by repeat (first | exact trivial | refine And.intro rfl ?_))
    · have hn : ¬ (VaD d ∧ ∀ c ∈ cs, 0 ≤ c ∧ c < d.length) := fun h => hck (h.2 _ (List.getElem_mem hkl))
      obtain ⟨rfl, rfl⟩ : 1 = e ∧ [] = R := by rw [← h0.1, ← h0.2]; exact ⟨(st_no hn).1.symm, (st_no hn).2.symm⟩
      repeat' (first
  | refine G_nilC ?_
  | refine G_nilN ?_
  | refine G_nilH ?_
  | (refine G_nil ?_; try clear ri_; try clear ops_)
  | (refine V_op ?_; first | exact True.intro | (intro v_ h_ w_ r_ t_; try (obtain ⟨ta_, tb_⟩ := (t_ : _ ∧ _)); try (obtain ⟨tb_, tc_⟩ := (tb_ : _ ∧ _)); try (obtain ⟨tc_, td_⟩ := (tc_ : _ ∧ _)); try (obtain ⟨td_, te_⟩ := (td_ : _ ∧ _))) | intro (ops_ : Array Oper) ri_ | intro (b_ : Bool) hb_ | (intro v_ h_; try (have o_ := FrzK.one h_)) | intro (v_ : Value) | intro (b_ : Nat) | (refine ⟨fun hc => ?_, fun hc => ?_⟩ <;> try (exfalso; omega)) | refine ⟨?_, ?_⟩ | intro _ | skip)
  | (refine Is_DQ ?_; first | (apply DQ_m rfl rfl rfl rfl; focus (intro wq_ Oq_ rq_ mm; (repeat (first | (refine G_nil ?_; exact X_done rfl (List.Sublist.refl _)) | refine V_op ?_)); done)) | (apply DQ_k rfl rfl rfl rfl; intro wq_ Oq_ rq_ mm) | (apply DQ_y rfl rfl rfl rfl; intro wq_ Oq_ rq_ mm)))
      all_goals
        refine ret_ rfl (by repeat (first | exact ResAll.nil | (apply ResAll.cons; first | exact .tmp rfl | exact .cell rfl rfl | exact .one rfl))) fun w' h' => ?_
        exact .mk (.slice none 0 0) trivial rfl h'
  · have hall : ∀ c ∈ cs, 0 ≤ c ∧ c < d.length := fun c h1 => by
      obtain ⟨i, hi, rfl⟩ := List.mem_iff_getElem.1 h1
      exact hin i hi (by omega)
    rw [List.take_of_length_le (by rw [stL, List.length_map]; omega)]
    by_cases hv : VaD d
    · haveI : Yes (VaD d) := ⟨hv⟩
      obtain ⟨rfl, rfl⟩ : 0 = e ∧ stL d cs = R := by rw [← h0.1, ← h0.2]; exact ⟨(st_ok hv hall).1.symm, (st_ok hv hall).2.symm⟩
      repeat' (first
  | refine G_nilC ?_
  | refine G_nilN ?_
  | refine G_nilH ?_
  | (refine G_nil ?_; try clear ri_; try clear ops_)
  | (refine V_op ?_; first | exact True.intro | (intro v_ h_ w_ r_ t_; try (obtain ⟨ta_, tb_⟩ := (t_ : _ ∧ _)); try (obtain ⟨tb_, tc_⟩ := (tb_ : _ ∧ _)); try (obtain ⟨tc_, td_⟩ := (tc_ : _ ∧ _)); try (obtain ⟨td_, te_⟩ := (td_ : _ ∧ _))) | intro (ops_ : Array Oper) ri_ | intro (b_ : Bool) hb_ | (intro v_ h_; try (have o_ := FrzK.one h_)) | intro (v_ : Value) | intro (b_ : Nat) | (refine ⟨fun hc => ?_, fun hc => ?_⟩ <;> try (exfalso; omega)) | refine ⟨?_, ?_⟩ | intro _ | skip)
  | (refine Is_DQ ?_; first | (apply DQ_m rfl rfl rfl rfl; focus (intro wq_ Oq_ rq_ mm; (repeat (first | (refine G_nil ?_; exact X_done rfl (List.Sublist.refl _)) | refine V_op ?_)); done)) | (apply DQ_k rfl rfl rfl rfl; intro wq_ Oq_ rq_ mm) | (apply DQ_y rfl rfl rfl rfl; intro wq_ Oq_ rq_ mm)))
      refine ret_ rfl (by repeat (first | exact ResAll.nil | (apply ResAll.cons; first | exact .tmp rfl | exact .cell rfl rfl | exact .one rfl))) fun w' h' => ?_
      exact .mk c trivial rfl h'
    · haveI : No (VaD d) := ⟨hv⟩
      obtain ⟨rfl, rfl⟩ : 1 = e ∧ [] = R := by rw [← h0.1, ← h0.2]; exact ⟨(st_no fun h => hv h.1).1.symm, (st_no fun h => hv h.1).2.symm⟩
      repeat' (first
  | refine G_nilC ?_
  | refine G_nilN ?_
  | refine G_nilH ?_
  | (refine G_nil ?_; try clear ri_; try clear ops_)
  | (refine V_op ?_; first | exact True.intro | (intro v_ h_ w_ r_ t_; try (obtain ⟨ta_, tb_⟩ := (t_ : _ ∧ _)); try (obtain ⟨tb_, tc_⟩ := (tb_ : _ ∧ _)); try (obtain ⟨tc_, td_⟩ := (tc_ : _ ∧ _)); try (obtain ⟨td_, te_⟩ := (td_ : _ ∧ _))) | intro (ops_ : Array Oper) ri_ | intro (b_ : Bool) hb_ | (intro v_ h_; try (have o_ := FrzK.one h_)) | intro (v_ : Value) | intro (b_ : Nat) | (refine ⟨fun hc => ?_, fun hc => ?_⟩ <;> try (exfalso; omega)) | refine ⟨?_, ?_⟩ | intro _ | skip)
  | (refine Is_DQ ?_; first | (apply DQ_m rfl rfl rfl rfl; focus (intro wq_ Oq_ rq_ mm; (repeat (first | (refine G_nil ?_; exact X_done rfl (List.Sublist.refl _)) | refine V_op ?_)); done)) | (apply DQ_k rfl rfl rfl rfl; intro wq_ Oq_ rq_ mm) | (apply DQ_y rfl rfl rfl rfl; intro wq_ Oq_ rq_ mm)))
      refine ret_ rfl (by repeat (first | exact ResAll.nil | (apply ResAll.cons; first | exact .tmp rfl | exact .cell rfl rfl | exact .one rfl))) fun w' h' => ?_
      exact .mk (.slice none 0 0) trivial rfl h'
section
variable {w0 : World} {O : List Nat} {m : List As} {v v' : Value} {d R : List ByteArray} {cs : List Int} {e : Int}
instance [h1 : RdR w0 O m v d] [h2 : RdR w0 O m v' cs] [he : Eqn (stE d cs) e] [hb : Eqn (stR d cs) R] : CallR Try.prog w0 O m 30 [v, v'] (cs.length ≤ 100000) (fun _ : Value => True) (fun r => .tuple #[r, I e]) (fun r => row r 9 R :: m) :=
  .new1 (M := fun r => row r _ R) fun hs w hw => @run_Strings w v v' d cs (RdOld.of (h1.rd w hw)) (RdOld.of (h2.rd w hw)) hs e R ⟨he.eq, hb.eq⟩
instance [h1 : RdR w0 O m v d] [h2 : RdR w0 O m v' cs] [he : Eqn (stE d cs) e] [hb : Eqn (stR d cs) R] : CallR Try.prog w0 O m 16 [v, v'] (cs.length ≤ 100000) (fun _ : Value => True) (fun r => .agg #[r, I e]) (fun r => row r 9 R :: m) :=
  .new1 (M := fun r => row r _ R) fun hs w hw => @ref_StringsIn w v v' d cs (RdOld.of (h1.rd w hw)) (RdOld.of (h2.rd w hw)) hs e R ⟨he.eq, hb.eq⟩
end
theorem law_strings (w : World) (v v' : Value) (d : List ByteArray) (cs : List Int) [h : RdOld w [] v d] [h' : RdOld w [] v' cs] (hl : cs.length ≤ 100000) (e : Int) (R : List ByteArray) (h0 : stE d cs = e ∧ stR d cs = R) :
    Calls Try.prog 15 #[v, v'] w (Ret w [] (fun _ : Value => True) (fun r => .agg #[r, I e]) (fun r => [row r 9 R])) := by
  haveI : Eqn (stE d cs) e := ⟨h0.1⟩
  haveI : Eqn (stR d cs) R := ⟨h0.2⟩
  refine enter (N := 16) (args := [v, v']) Try.func15 rfl rfl rfl (St.refl w) ?_
  repeat' (first
  | refine G_nilC ?_
  | refine G_nilN ?_
  | refine G_nilH ?_
  | (refine G_nil ?_; try clear ri_; try clear ops_)
  | (refine V_op ?_; first | exact True.intro | (intro v_ h_ w_ r_ t_; try (obtain ⟨ta_, tb_⟩ := (t_ : _ ∧ _)); try (obtain ⟨tb_, tc_⟩ := (tb_ : _ ∧ _)); try (obtain ⟨tc_, td_⟩ := (tc_ : _ ∧ _)); try (obtain ⟨td_, te_⟩ := (td_ : _ ∧ _))) | intro (ops_ : Array Oper) ri_ | intro (b_ : Bool) hb_ | (intro v_ h_; try (have o_ := FrzK.one h_)) | intro (v_ : Value) | intro (b_ : Nat) | (refine ⟨fun hc => ?_, fun hc => ?_⟩ <;> try (exfalso; omega)) | refine ⟨?_, ?_⟩ | intro _ | skip)
  | (refine Is_DQ ?_; first | (apply DQ_m rfl rfl rfl rfl; focus (intro wq_ Oq_ rq_ mm; (repeat (first | (refine G_nil ?_; exact X_done rfl (List.Sublist.refl _)) | refine V_op ?_)); done)) | (apply DQ_k rfl rfl rfl rfl; intro wq_ Oq_ rq_ mm) | (apply DQ_y rfl rfl rfl rfl; intro wq_ Oq_ rq_ mm)))
  refine ret_ rfl (by repeat (first | exact ResAll.nil | (apply ResAll.cons; first | exact .tmp rfl | exact .cell rfl rfl | exact .one rfl))) fun w' h' => ?_
  exact .mk _ trivial rfl h'
section
variable {w0 : World} {O : List Nat} {m : List As} {v v' : Value} {d R : List ByteArray} {cs : List Int} {e : Int}
instance [h1 : RdR w0 O m v d] [h2 : RdR w0 O m v' cs] [he : Eqn (stE d cs) e] [hb : Eqn (stR d cs) R] : CallR Try.prog w0 O m 15 [v, v'] (cs.length ≤ 100000) (fun _ : Value => True) (fun r => .agg #[r, I e]) (fun r => row r 9 R :: m) :=
  .new1 (M := fun r => row r _ R) fun hs w hw => @law_strings w v v' d cs (RdOld.of (h1.rd w hw)) (RdOld.of (h2.rd w hw)) hs e R ⟨he.eq, hb.eq⟩
end
end Go.Proofs.Ytnncjfphdcfimaa
