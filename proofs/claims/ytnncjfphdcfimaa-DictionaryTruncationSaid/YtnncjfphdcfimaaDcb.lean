/- Dictionary: Of, Codes, Strings. -/
import Derived.Test.YtnncjfphdcfimaaDcp
set_option linter.unusedVariables false
set_option linter.unusedSimpArgs false
set_option maxRecDepth 100000
set_option maxHeartbeats 4000000
namespace Go.Proofs.Ytnncjfphdcfimaa
open Go.RowKit
attribute [local irreducible] G GC At wpL DR XPost CPost Cut GA GAR GAX GAt NxA GH GHR NxH
attribute [local irreducible] ofD srtL cmpL

theorem run_Of (w : World) (v : Value) (l : List ByteArray) [h : RdOld w [] v l] (hl : l.length ≤ 1000000) : Calls Try.prog 20 #[v] w (Ret w [] (fun _ : Value => True) (fun r => r) (fun r => [row r 9 (ofD l)])) := by
  have hs := srtL_length l
  rw [show ofD l = cmpL (srtL l) by unfold ofD; rfl]
  refine enter (N := 10) (args := [v]) Try.func20 rfl rfl rfl (St.refl w) ?_
  repeat' (first
  | refine G_nilC ?_
  | refine G_nilN ?_
  | refine G_nilH ?_
  | (refine G_nil ?_; try clear ri_; try clear ops_)
  | (refine V_op ?_; first | exact True.intro | (intro v_ h_ w_ r_ t_; try (obtain ⟨ta_, tb_⟩ := (t_ : _ ∧ _)); try (obtain ⟨tb_, tc_⟩ := (tb_ : _ ∧ _)); try (obtain ⟨tc_, td_⟩ := (tc_ : _ ∧ _)); try (obtain ⟨td_, te_⟩ := (td_ : _ ∧ _))) | intro (ops_ : Array Oper) ri_ | intro (b_ : Bool) hb_ | (intro v_ h_; try (have o_ := FrzK.one h_)) | intro (v_ : Value) | intro (b_ : Nat) | (refine ⟨fun hc => ?_, fun hc => ?_⟩ <;> try (exfalso; omega)) | refine ⟨?_, ?_⟩ | intro _ | skip)
  | (refine Is_DQ ?_; first | (apply DQ_m rfl rfl rfl rfl; focus (intro wq_ Oq_ rq_ mm; (repeat (first | (refine G_nil ?_; exact X_done rfl (List.Sublist.refl _)) | refine V_op ?_)); done)) | (apply DQ_k rfl rfl rfl rfl; intro wq_ Oq_ rq_ mm) | (apply DQ_y rfl rfl rfl rfl; intro wq_ Oq_ rq_ mm)))
  refine ret_ rfl (by repeat (first | exact ResAll.nil | (apply ResAll.cons; first | exact .tmp rfl | exact .cell rfl rfl | exact .one rfl))) fun w' h' => ?_
  exact .mk v_ trivial rfl h'
/-- the list with a string put in ahead of the a-th -/
abbrev insO (o : List ByteArray) (a : Nat) (s : ByteArray) : List ByteArray := List.take (a - 0) (List.drop 0 o) ++ s :: List.take (o.length - a) (List.drop a o)
theorem ofR_step {l o : List ByteArray} {k a : Nat} (hk : k < l.length) (hol : o.length ≤ k) (hd : Dic o) (hm : ∀ s, s ∈ o ↔ s ∈ l.take k) (ha : a ≤ o.length) (h1 : ∀ i (hi : i < o.length), i < a → ltS (bL o[i]) (bL l[k])) (h2 : ∀ h : a < o.length, ltS (bL l[k]) (bL o[a])) :
    (insO o a l[k]).length ≤ k + 1 ∧ Dic (insO o a l[k]) ∧ ∀ s, s ∈ insO o a l[k] ↔ s ∈ l.take (k + 1) := by
  have e : insO o a l[k] = o.take a ++ l[k] :: o.drop a := by
    rw [insO, List.drop_zero, Nat.sub_zero, List.take_of_length_le (l := o.drop a) (by rw [List.length_drop]; exact Nat.le_refl _)]
  rw [e]
  refine ⟨by simp only [List.length_append, List.length_take, List.length_cons, List.length_drop]; omega, dic_ins hd ha h1 h2, fun s => ?_⟩
  rw [List.take_succ_eq_append_getElem hk, List.mem_append, List.mem_cons, List.mem_append, List.mem_singleton, ← hm s]
  have h3 : s ∈ o ↔ s ∈ o.take a ∨ s ∈ o.drop a := by rw [← List.mem_append, List.take_append_drop]
  rw [h3]
  constructor
  · rintro (h | h | h)
    · exact .inl (.inl h)
    · exact .inr h
    · exact .inl (.inr h)
  · rintro ((h | h) | h)
    · exact .inl h
    · exact .inr (.inr h)
    · exact .inr (.inl h)
theorem ofR_same {l o : List ByteArray} {k : Nat} (hk : k < l.length) (hm : ∀ s, s ∈ o ↔ s ∈ l.take k) (h : l[k] ∈ o) : ∀ s, s ∈ o ↔ s ∈ l.take (k + 1) := fun s => by
  rw [List.take_succ_eq_append_getElem hk, List.mem_append, List.mem_singleton, ← hm s]
  exact ⟨.inl, fun h1 => h1.elim id fun e => by rw [e]; exact h⟩
theorem ref_Of (w : World) (v : Value) (l : List ByteArray) [h : RdOld w [] v l] (hl : l.length ≤ 1000000) : Calls Try.prog 12 #[v] w (Ret w [] (fun _ : Value => True) (fun r => r) (fun r => [row r 9 (ofD l)])) := by
  refine enter (N := 61) (args := [v]) Try.func12 rfl rfl rfl (St.refl w) ?_
  repeat' (first
  | refine G_nilC ?_
  | refine G_nilN ?_
  | refine G_nilH ?_
  | (refine G_nil ?_; try clear ri_; try clear ops_)
  | (refine V_op ?_; first | exact True.intro | (intro v_ h_ w_ r_ t_; try (obtain ⟨ta_, tb_⟩ := (t_ : _ ∧ _)); try (obtain ⟨tb_, tc_⟩ := (tb_ : _ ∧ _)); try (obtain ⟨tc_, td_⟩ := (tc_ : _ ∧ _)); try (obtain ⟨td_, te_⟩ := (td_ : _ ∧ _))) | intro (ops_ : Array Oper) ri_ | intro (b_ : Bool) hb_ | (intro v_ h_; try (have o_ := FrzK.one h_)) | intro (v_ : Value) | intro (b_ : Nat) | (refine ⟨fun hc => ?_, fun hc => ?_⟩ <;> try (exfalso; omega)) | refine ⟨?_, ?_⟩ | intro _ | skip)
  | (refine Is_DQ ?_; first | (apply DQ_m rfl rfl rfl rfl; focus (intro wq_ Oq_ rq_ mm; (repeat (first | (refine G_nil ?_; exact X_done rfl (List.Sublist.refl _)) | refine V_op ?_)); done)) | (apply DQ_k rfl rfl rfl rfl; intro wq_ Oq_ rq_ mm) | (apply DQ_y rfl rfl rfl rfl; intro wq_ Oq_ rq_ mm)))
  refine GC_loopS (X := Nat × Value × List ByteArray) (fun y => y.1 ≤ l.length ∧ y.2.2.length ≤ y.1 ∧ Dic y.2.2 ∧ ∀ s, s ∈ y.2.2 ↔ s ∈ l.take y.1) (fun y s => (4, I y.1) :: (3, y.2.1) :: s) (fun y q => row y.2.1 9 y.2.2 :: q) (fun y => l.length - y.1) (0, _, []) ⟨by simp, by simp, List.Pairwise.nil, by simp⟩ (by repeat (first | exact trivial | refine And.intro rfl ?_)) ?_ (want := [row _ 9 ([] : List ByteArray)]) (hm0 := rfl)
  rintro ⟨k, ov, o⟩ ⟨hk, hol, hd, hm⟩
  simp only at hk hol hd hm ⊢
  repeat' (first
  | refine G_nilC ?_
  | refine G_nilN ?_
  | refine G_nilH ?_
  | (refine G_nil ?_; try clear ri_; try clear ops_)
  | (refine V_op ?_; first | exact True.intro | (intro v_ h_ w_ r_ t_; try (obtain ⟨ta_, tb_⟩ := (t_ : _ ∧ _)); try (obtain ⟨tb_, tc_⟩ := (tb_ : _ ∧ _)); try (obtain ⟨tc_, td_⟩ := (tc_ : _ ∧ _)); try (obtain ⟨td_, te_⟩ := (td_ : _ ∧ _))) | intro (ops_ : Array Oper) ri_ | intro (b_ : Bool) hb_ | (intro v_ h_; try (have o_ := FrzK.one h_)) | intro (v_ : Value) | intro (b_ : Nat) | (refine ⟨fun hc => ?_, fun hc => ?_⟩ <;> try (exfalso; omega)) | refine ⟨?_, ?_⟩ | intro _ | skip)
  | (refine Is_DQ ?_; first | (apply DQ_m rfl rfl rfl rfl; focus (intro wq_ Oq_ rq_ mm; (repeat (first | (refine G_nil ?_; exact X_done rfl (List.Sublist.refl _)) | refine V_op ?_)); done)) | (apply DQ_k rfl rfl rfl rfl; intro wq_ Oq_ rq_ mm) | (apply DQ_y rfl rfl rfl rfl; intro wq_ Oq_ rq_ mm)))
  · refine GC_loopS (X := Nat) (fun a => a ≤ o.length ∧ ∀ i (hi : i < o.length), i < a → ltS (bL o[i]) (bL (l[k]'(by omega)))) (fun a s => (5, I a) :: s) (fun _ q => q) (fun a => o.length - a) 0 ⟨Nat.zero_le _, fun i hi h0 => by omega⟩ (by repeat (first | exact trivial | refine And.intro rfl ?_)) ?_
    rintro a ⟨ha, hla⟩
    haveI := DrH_12_9
    have hs2 : (a : Int) = o.length → (insO o a (l[k]'(by omega))).length ≤ k + 1 ∧ Dic (insO o a (l[k]'(by omega))) ∧ ∀ s, s ∈ insO o a (l[k]'(by omega)) ↔ s ∈ l.take (k + 1) := fun h => ofR_step (by omega) hol hd hm ha hla (fun h => by omega)
    have hs1 : ∀ h : a < o.length, ¬ ltS (bL o[a]) (bL (l[k]'(by omega))) → ¬ bL o[a] = bL (l[k]'(by omega)) → (insO o a (l[k]'(by omega))).length ≤ k + 1 ∧ Dic (insO o a (l[k]'(by omega))) ∧ ∀ s, s ∈ insO o a (l[k]'(by omega)) ↔ s ∈ l.take (k + 1) := fun h h1 h2 => ofR_step (by omega) hol hd hm ha hla (fun h => (not_ltS.1 h1).resolve_right h2)
    repeat' (first
  | refine G_nilC ?_
  | refine G_nilN ?_
  | refine G_nilH ?_
  | (refine G_nil ?_; try clear ri_; try clear ops_)
  | (refine V_op ?_; first | exact True.intro | (intro v_ h_ w_ r_ t_; try (obtain ⟨ta_, tb_⟩ := (t_ : _ ∧ _)); try (obtain ⟨tb_, tc_⟩ := (tb_ : _ ∧ _)); try (obtain ⟨tc_, td_⟩ := (tc_ : _ ∧ _)); try (obtain ⟨td_, te_⟩ := (td_ : _ ∧ _))) | intro (ops_ : Array Oper) ri_ | intro (b_ : Bool) hb_ | (intro v_ h_; try (have o_ := FrzK.one h_)) | intro (v_ : Value) | intro (b_ : Nat) | (refine ⟨fun hc => ?_, fun hc => ?_⟩ <;> try (exfalso; omega)) | refine ⟨?_, ?_⟩ | intro _ | skip)
  | (refine Is_DQ ?_; first | (apply DQ_m rfl rfl rfl rfl; focus (intro wq_ Oq_ rq_ mm; (repeat (first | (refine G_nil ?_; exact X_done rfl (List.Sublist.refl _)) | refine V_op ?_)); done)) | (apply DQ_k rfl rfl rfl rfl; intro wq_ Oq_ rq_ mm) | (apply DQ_y rfl rfl rfl rfl; intro wq_ Oq_ rq_ mm)))
    · exact At_roundS (a + 1) ⟨by omega, fun i hi hia => by
        by_cases e : i = a
        · subst e; exact hc
        · exact hla i hi (by omega)⟩ (by omega) (by repeat (first | exact trivial | refine And.intro rfl ?_)) (by repeat (first | exact trivial | refine And.intro rfl ?_))
    · obtain ⟨q1, q2, q3⟩ := hs1 (by omega) (by assumption) hc
      exact At_roundS (k + 1, v_, insO o a (l[k]'(by omega))) ⟨by simp only; omega, q1, q2, q3⟩ (by simp only; omega) (by repeat (first | exact trivial | refine And.intro rfl ?_)) (by repeat (first | exact trivial | refine And.intro rfl ?_))
    · obtain ⟨q1, q2, q3⟩ := hs1 (by omega) (by assumption) hc
      exact At_roundS (k + 1, v_, insO o a (l[k]'(by omega))) ⟨by simp only; omega, q1, q2, q3⟩ (by simp only; omega) (by repeat (first | exact trivial | refine And.intro rfl ?_)) (by repeat (first | exact trivial | refine And.intro rfl ?_))
    · obtain ⟨q1, q2, q3⟩ := hs1 (by omega) (by assumption) hc
      exact At_roundS (k + 1, v_, insO o a (l[k]'(by omega))) ⟨by simp only; omega, q1, q2, q3⟩ (by simp only; omega) (by repeat (first | exact trivial | refine And.intro rfl ?_)) (by repeat (first | exact trivial | refine And.intro rfl ?_))
    · exact At_roundS (k + 1, ov, o) ⟨by simp only; omega, by simp only; omega, hd, ofR_same (by omega) hm (by
        rw [← bL_inj (Decidable.not_not.1 hc)]; exact List.getElem_mem _)⟩ (by simp only; omega) (by repeat (first | exact trivial | refine And.intro rfl ?_)) (by repeat (first | exact trivial | refine And.intro rfl ?_))
    · obtain ⟨q1, q2, q3⟩ := hs2 hc
      exact At_roundS (k + 1, v_, insO o a (l[k]'(by omega))) ⟨by simp only; omega, q1, q2, q3⟩ (by simp only; omega) (by repeat (first | exact trivial | refine And.intro rfl ?_)) (by repeat (first | exact trivial | refine And.intro rfl ?_))
    · obtain ⟨q1, q2, q3⟩ := hs2 hc
      exact At_roundS (k + 1, v_, insO o a (l[k]'(by omega))) ⟨by simp only; omega, q1, q2, q3⟩ (by simp only; omega) (by repeat (first | exact trivial | refine And.intro rfl ?_)) (by repeat (first | exact trivial | refine And.intro rfl ?_))
    · obtain ⟨q1, q2, q3⟩ := hs2 hc
      exact At_roundS (k + 1, v_, insO o a (l[k]'(by omega))) ⟨by simp only; omega, q1, q2, q3⟩ (by simp only; omega) (by repeat (first | exact trivial | refine And.intro rfl ?_)) (by repeat (first | exact trivial | refine And.intro rfl ?_))
  · refine ret_ rfl (by repeat (first | exact ResAll.nil | (apply ResAll.cons; first | exact .tmp rfl | exact .cell rfl rfl | exact .one rfl))) fun w' h' => ?_
    rw [List.take_of_length_le (by omega)] at hm
    have e := ofD_eq hd hm
    subst e
    exact .mk ov trivial rfl h'
section
variable {w0 : World} {O : List Nat} {m : List As} {v : Value} {l d : List ByteArray}
instance [h : RdR w0 O m v l] [hd : Eqn (ofD l) d] : CallR Try.prog w0 O m 20 [v] (l.length ≤ 1000000) (fun _ : Value => True) (fun r => r) (fun r => row r 9 d :: m) :=
  .new1 (M := fun r => row r _ d) fun hs w hw => by rw [← hd.eq]; exact @run_Of w v l (RdOld.of (h.rd w hw)) hs
instance [h : RdR w0 O m v l] [hd : Eqn (ofD l) d] : CallR Try.prog w0 O m 12 [v] (l.length ≤ 1000000) (fun _ : Value => True) (fun r => r) (fun r => row r 9 d :: m) :=
  .new1 (M := fun r => row r _ d) fun hs w hw => by rw [← hd.eq]; exact @ref_Of w v l (RdOld.of (h.rd w hw)) hs
end
end Go.Proofs.Ytnncjfphdcfimaa
