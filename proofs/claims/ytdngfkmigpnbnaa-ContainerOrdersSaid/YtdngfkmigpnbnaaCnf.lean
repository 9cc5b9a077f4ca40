/- Container: the order of identities, equality of files. -/
import Derived.Test.YtdngfkmigpnbnaaCnp
set_option linter.unusedVariables false
set_option linter.unusedSimpArgs false
set_option maxRecDepth 100000
set_option maxHeartbeats 4000000
namespace Go.Proofs.Ytdngfkmigpnbnaa
open Go.RowKit
attribute [local irreducible] G GC At wpL DR XPost CPost Cut GA GAR GAX GAt NxA GH GHR NxH

/-- lists of numbers, compared -/
def cmpI : List Int → List Int → Int
  | [], [] => 0
  | [], _ :: _ => -1
  | _ :: _, [] => 1
  | x :: xs, y :: ys => if x < y then -1 else if y < x then 1 else cmpI xs ys
def sgI (a b : Int) : Int := if a < b then -1 else if b < a then 1 else 0
theorem cmpI_step {a b : List Int} {k : Nat} (h : k < a.length) (h' : k < b.length) : cmpI (a.drop k) (b.drop k) = if a[k] < b[k] then -1 else if b[k] < a[k] then 1 else cmpI (a.drop (k + 1)) (b.drop (k + 1)) := by
  rw [List.drop_eq_getElem_cons h, List.drop_eq_getElem_cons h', cmpI]
theorem cmpI_end {a b : List Int} {k : Nat} (h : a.length ≤ k) : cmpI (a.drop k) (b.drop k) = if k < b.length then -1 else 0 := by
  rw [List.drop_of_length_le h]
  by_cases hk : k < b.length
  · rw [List.drop_eq_getElem_cons hk, cmpI, if_pos hk]
  · rw [List.drop_of_length_le (by omega), cmpI, if_neg hk]
theorem cmpI_out {a b : List Int} {k : Nat} (h : k < a.length) (h' : b.length ≤ k) : cmpI (a.drop k) (b.drop k) = 1 := by
  rw [List.drop_eq_getElem_cons h, List.drop_of_length_le h', cmpI]
theorem cmpI_eq : ∀ {a b : List Int}, cmpI a b = 0 ↔ a = b
  | [], [] => by simp [cmpI]
  | [], _ :: _ => by simp [cmpI]
  | _ :: _, [] => by simp [cmpI]
  | x :: xs, y :: ys => by
    rw [cmpI]
    split
    · constructor
      · intro h; omega
      · intro h; cases h; omega
    · split
      · constructor
        · intro h; omega
        · intro h; cases h; omega
      · rw [cmpI_eq]
        have : x = y := by omega
        simp [this]
section
variable {w0 : World} {O : List Nat} {m : List As}
theorem lib_isNaN (w : World) (a : Int) : Calls Try.prog 39 #[I a] w (Is w (.bool false)) := by
  refine enter (N := 6) (args := [I a]) Try.func39 rfl rfl rfl (St.refl w) ?_
  repeat' (first
  | refine G_nilC ?_
  | refine G_nilN ?_
  | refine G_nilH ?_
  | (refine G_nil ?_; try clear ri_; try clear ops_)
  | (refine V_op ?_; first | exact True.intro | (intro v_ h_ w_ r_ t_; try (obtain ⟨ta_, tb_⟩ := (t_ : _ ∧ _)); try (obtain ⟨tb_, tc_⟩ := (tb_ : _ ∧ _)); try (obtain ⟨tc_, td_⟩ := (tc_ : _ ∧ _)); try (obtain ⟨td_, te_⟩ := (td_ : _ ∧ _))) | intro (ops_ : Array Oper) ri_ | intro (b_ : Bool) hb_ | (intro v_ h_; try (have o_ := FrzK.one h_)) | intro (v_ : Value) | intro (b_ : Nat) | (refine ⟨fun hc => ?_, fun hc => ?_⟩ <;> try (exfalso; omega)) | refine ⟨?_, ?_⟩ | intro _ | skip)
  | (refine Is_DQ ?_; first | (apply DQ_m rfl rfl rfl rfl; focus (intro wq_ Oq_ rq_ mm; (repeat (first | (refine G_nil ?_; exact X_done rfl (List.Sublist.refl _)) | refine V_op ?_)); done)) | (apply DQ_k rfl rfl rfl rfl; intro wq_ Oq_ rq_ mm) | (apply DQ_y rfl rfl rfl rfl; intro wq_ Oq_ rq_ mm)))
  refine ret_ rfl (by repeat (first | exact ResAll.nil | (apply ResAll.cons; first | exact .tmp rfl | exact .cell rfl rfl | exact .one rfl))) fun w' h' => ?_
  refine .mk ?_ h'
  simp [retV]
instance (a : Int) : CallV Try.prog w0 O m 39 [.int .i64 a] True (.bool false) := ⟨fun _ w _ => lib_isNaN w a⟩
theorem lib_cmp (w : World) (a b : Int) : Calls Try.prog 25 #[I a, I b] w (Is w (I (sgI a b))) := by
  refine enter (N := 20) (args := [I a, I b]) Try.func25 rfl rfl rfl (St.refl w) ?_
  repeat' (first
  | refine G_nilC ?_
  | refine G_nilN ?_
  | refine G_nilH ?_
  | (refine G_nil ?_; try clear ri_; try clear ops_)
  | (refine V_op ?_; first | exact True.intro | (intro v_ h_ w_ r_ t_; try (obtain ⟨ta_, tb_⟩ := (t_ : _ ∧ _)); try (obtain ⟨tb_, tc_⟩ := (tb_ : _ ∧ _)); try (obtain ⟨tc_, td_⟩ := (tc_ : _ ∧ _)); try (obtain ⟨td_, te_⟩ := (td_ : _ ∧ _))) | intro (ops_ : Array Oper) ri_ | intro (b_ : Bool) hb_ | (intro v_ h_; try (have o_ := FrzK.one h_)) | intro (v_ : Value) | intro (b_ : Nat) | (refine ⟨fun hc => ?_, fun hc => ?_⟩ <;> try (exfalso; omega)) | refine ⟨?_, ?_⟩ | intro _ | skip)
  | (refine Is_DQ ?_; first | (apply DQ_m rfl rfl rfl rfl; focus (intro wq_ Oq_ rq_ mm; (repeat (first | (refine G_nil ?_; exact X_done rfl (List.Sublist.refl _)) | refine V_op ?_)); done)) | (apply DQ_k rfl rfl rfl rfl; intro wq_ Oq_ rq_ mm) | (apply DQ_y rfl rfl rfl rfl; intro wq_ Oq_ rq_ mm)))
  all_goals
    refine ret_ rfl (by repeat (first | exact ResAll.nil | (apply ResAll.cons; first | exact .tmp rfl | exact .cell rfl rfl | exact .one rfl))) fun w' h' => ?_
    refine .mk ?_ h'
    unfold sgI
    repeat (first | rw [if_pos (by omega)] at ⊢ | rw [if_neg (by omega)] at ⊢)
instance (a b : Int) : CallV Try.prog w0 O m 25 [.int .i64 a, .int .i64 b] True (I (sgI a b)) := ⟨fun _ w _ => lib_cmp w a b⟩
end
theorem lib_Compare (w : World) (v v' : Value) (a b : List Int) [h : RdOld w [] v a] [h' : RdOld w [] v' b] : Calls Try.prog 26 #[v, v'] w (Is w (I (cmpI a b))) := by
  have hl := h.rd.len_le
  have hl' := h'.rd.len_le
  refine enter (N := 36) (args := [v, v']) Try.func26 rfl rfl rfl (St.refl w) ?_
  repeat' (first
  | refine G_nilC ?_
  | refine G_nilN ?_
  | refine G_nilH ?_
  | (refine G_nil ?_; try clear ri_; try clear ops_)
  | (refine V_op ?_; first | exact True.intro | (intro v_ h_ w_ r_ t_; try (obtain ⟨ta_, tb_⟩ := (t_ : _ ∧ _)); try (obtain ⟨tb_, tc_⟩ := (tb_ : _ ∧ _)); try (obtain ⟨tc_, td_⟩ := (tc_ : _ ∧ _)); try (obtain ⟨td_, te_⟩ := (td_ : _ ∧ _))) | intro (ops_ : Array Oper) ri_ | intro (b_ : Bool) hb_ | (intro v_ h_; try (have o_ := FrzK.one h_)) | intro (v_ : Value) | intro (b_ : Nat) | (refine ⟨fun hc => ?_, fun hc => ?_⟩ <;> try (exfalso; omega)) | refine ⟨?_, ?_⟩ | intro _ | skip)
  | (refine Is_DQ ?_; first | (apply DQ_m rfl rfl rfl rfl; focus (intro wq_ Oq_ rq_ mm; (repeat (first | (refine G_nil ?_; exact X_done rfl (List.Sublist.refl _)) | refine V_op ?_)); done)) | (apply DQ_k rfl rfl rfl rfl; intro wq_ Oq_ rq_ mm) | (apply DQ_y rfl rfl rfl rfl; intro wq_ Oq_ rq_ mm)))
  refine GC_loopS (X := Nat) (fun k => k ≤ a.length ∧ k ≤ b.length ∧ cmpI (a.drop k) (b.drop k) = cmpI a b) (fun k s => (11, I k) :: s) (fun _ r => r) (fun k => a.length - k) 0 ⟨Nat.zero_le _, Nat.zero_le _, by simp⟩ (by repeat (first | exact trivial | refine And.intro rfl ?_)) ?_
  rintro k ⟨hk, hkb, he⟩
  by_cases h1 : k < a.length
  · by_cases h2 : k < b.length
    · rw [cmpI_step h1 h2] at he
      repeat' (first
  | refine G_nilC ?_
  | refine G_nilN ?_
  | refine G_nilH ?_
  | (refine G_nil ?_; try clear ri_; try clear ops_)
  | (refine V_op ?_; first | exact True.intro | (intro v_ h_ w_ r_ t_; try (obtain ⟨ta_, tb_⟩ := (t_ : _ ∧ _)); try (obtain ⟨tb_, tc_⟩ := (tb_ : _ ∧ _)); try (obtain ⟨tc_, td_⟩ := (tc_ : _ ∧ _)); try (obtain ⟨td_, te_⟩ := (td_ : _ ∧ _))) | intro (ops_ : Array Oper) ri_ | intro (b_ : Bool) hb_ | (intro v_ h_; try (have o_ := FrzK.one h_)) | intro (v_ : Value) | intro (b_ : Nat) | (refine ⟨fun hc => ?_, fun hc => ?_⟩ <;> try (exfalso; omega)) | refine ⟨?_, ?_⟩ | intro _ | skip)
  | (refine Is_DQ ?_; first | (apply DQ_m rfl rfl rfl rfl; focus (intro wq_ Oq_ rq_ mm; (repeat (first | (refine G_nil ?_; exact X_done rfl (List.Sublist.refl _)) | refine V_op ?_)); done)) | (apply DQ_k rfl rfl rfl rfl; intro wq_ Oq_ rq_ mm) | (apply DQ_y rfl rfl rfl rfl; intro wq_ Oq_ rq_ mm)))
      · refine ret_ rfl (by repeat (first | exact ResAll.nil | (apply ResAll.cons; first | exact .tmp rfl | exact .cell rfl rfl | exact .one rfl))) fun w' h' => ?_
        refine .mk ?_ h'
        have hsg : sgI a[k] b[k] = cmpI a b := by
          unfold sgI at hc ⊢
          split at hc
          · rw [if_pos (by assumption)] at he ⊢; exact he
          · rename_i h3
            rw [if_neg h3] at he ⊢
            split at hc
            · rw [if_pos (by assumption)] at he ⊢; exact he
            · omega
        rw [← hsg]
      · have hz : sgI a[k] b[k] = 0 := by omega
        have h3 : ¬ a[k] < b[k] := fun h3 => by rw [sgI, if_pos h3] at hz; omega
        have h4 : ¬ b[k] < a[k] := fun h4 => by rw [sgI, if_neg h3, if_pos h4] at hz; omega
        rw [if_neg h3, if_neg h4] at he
        exact At_roundS (k + 1) ⟨by omega, by omega, he⟩ (by omega) (by repeat (first | exact trivial | refine And.intro rfl ?_)) (by repeat (first | exact trivial | refine And.intro rfl ?_))
    · rw [cmpI_out h1 (by omega)] at he
      repeat' (first
  | refine G_nilC ?_
  | refine G_nilN ?_
  | refine G_nilH ?_
  | (refine G_nil ?_; try clear ri_; try clear ops_)
  | (refine V_op ?_; first | exact True.intro | (intro v_ h_ w_ r_ t_; try (obtain ⟨ta_, tb_⟩ := (t_ : _ ∧ _)); try (obtain ⟨tb_, tc_⟩ := (tb_ : _ ∧ _)); try (obtain ⟨tc_, td_⟩ := (tc_ : _ ∧ _)); try (obtain ⟨td_, te_⟩ := (td_ : _ ∧ _))) | intro (ops_ : Array Oper) ri_ | intro (b_ : Bool) hb_ | (intro v_ h_; try (have o_ := FrzK.one h_)) | intro (v_ : Value) | intro (b_ : Nat) | (refine ⟨fun hc => ?_, fun hc => ?_⟩ <;> try (exfalso; omega)) | refine ⟨?_, ?_⟩ | intro _ | skip)
  | (refine Is_DQ ?_; first | (apply DQ_m rfl rfl rfl rfl; focus (intro wq_ Oq_ rq_ mm; (repeat (first | (refine G_nil ?_; exact X_done rfl (List.Sublist.refl _)) | refine V_op ?_)); done)) | (apply DQ_k rfl rfl rfl rfl; intro wq_ Oq_ rq_ mm) | (apply DQ_y rfl rfl rfl rfl; intro wq_ Oq_ rq_ mm)))
      refine ret_ rfl (by repeat (first | exact ResAll.nil | (apply ResAll.cons; first | exact .tmp rfl | exact .cell rfl rfl | exact .one rfl))) fun w' h' => ?_
      exact .mk (by rw [← he]) h'
  · rw [cmpI_end (by omega)] at he
    repeat' (first
  | refine G_nilC ?_
  | refine G_nilN ?_
  | refine G_nilH ?_
  | (refine G_nil ?_; try clear ri_; try clear ops_)
  | (refine V_op ?_; first | exact True.intro | (intro v_ h_ w_ r_ t_; try (obtain ⟨ta_, tb_⟩ := (t_ : _ ∧ _)); try (obtain ⟨tb_, tc_⟩ := (tb_ : _ ∧ _)); try (obtain ⟨tc_, td_⟩ := (tc_ : _ ∧ _)); try (obtain ⟨td_, te_⟩ := (td_ : _ ∧ _))) | intro (ops_ : Array Oper) ri_ | intro (b_ : Bool) hb_ | (intro v_ h_; try (have o_ := FrzK.one h_)) | intro (v_ : Value) | intro (b_ : Nat) | (refine ⟨fun hc => ?_, fun hc => ?_⟩ <;> try (exfalso; omega)) | refine ⟨?_, ?_⟩ | intro _ | skip)
  | (refine Is_DQ ?_; first | (apply DQ_m rfl rfl rfl rfl; focus (intro wq_ Oq_ rq_ mm; (repeat (first | (refine G_nil ?_; exact X_done rfl (List.Sublist.refl _)) | refine V_op ?_)); done)) | (apply DQ_k rfl rfl rfl rfl; intro wq_ Oq_ rq_ mm) | (apply DQ_y rfl rfl rfl rfl; intro wq_ Oq_ rq_ mm)))
    · refine ret_ rfl (by repeat (first | exact ResAll.nil | (apply ResAll.cons; first | exact .tmp rfl | exact .cell rfl rfl | exact .one rfl))) fun w' h' => ?_
      rw [if_pos (by omega)] at he
      exact .mk (by rw [← he]) h'
    · refine ret_ rfl (by repeat (first | exact ResAll.nil | (apply ResAll.cons; first | exact .tmp rfl | exact .cell rfl rfl | exact .one rfl))) fun w' h' => ?_
      rw [if_neg (by omega)] at he
      exact .mk (by rw [← he]) h'
theorem ref_CmpInts (w : World) (v v' : Value) (a b : List Int) [h : RdOld w [] v a] [h' : RdOld w [] v' b] : Calls Try.prog 27 #[v, v'] w (Is w (I (cmpI a b))) := by
  have hl := h.rd.len_le
  have hl' := h'.rd.len_le
  refine enter (N := 46) (args := [v, v']) Try.func27 rfl rfl rfl (St.refl w) ?_
  repeat' (first
  | refine G_nilC ?_
  | refine G_nilN ?_
  | refine G_nilH ?_
  | (refine G_nil ?_; try clear ri_; try clear ops_)
  | (refine V_op ?_; first | exact True.intro | (intro v_ h_ w_ r_ t_; try (obtain ⟨ta_, tb_⟩ := (t_ : _ ∧ _)); try (obtain ⟨tb_, tc_⟩ := (tb_ : _ ∧ _)); try (obtain ⟨tc_, td_⟩ := (tc_ : _ ∧ _)); try (obtain ⟨td_, te_⟩ := (td_ : _ ∧ _))) | intro (ops_ : Array Oper) ri_ | intro (b_ : Bool) hb_ | (intro v_ h_; try (have o_ := FrzK.one h_)) | intro (v_ : Value) | intro (b_ : Nat) | (refine ⟨fun hc => ?_, fun hc => ?_⟩ <;> try (exfalso; omega)) | refine ⟨?_, ?_⟩ | intro _ | skip)
  | (refine Is_DQ ?_; first | (apply DQ_m rfl rfl rfl rfl; focus (intro wq_ Oq_ rq_ mm; (repeat (first | (refine G_nil ?_; exact X_done rfl (List.Sublist.refl _)) | refine V_op ?_)); done)) | (apply DQ_k rfl rfl rfl rfl; intro wq_ Oq_ rq_ mm) | (apply DQ_y rfl rfl rfl rfl; intro wq_ Oq_ rq_ mm)))
  refine GC_loopS (X := Nat) (fun k => k ≤ a.length ∧ k ≤ b.length ∧ cmpI (a.drop k) (b.drop k) = cmpI a b) (fun k s => (5, I k) :: s) (fun _ r => r) (fun k => a.length - k) 0 ⟨Nat.zero_le _, Nat.zero_le _, by simp⟩ (by repeat (first | exact trivial | refine And.intro rfl ?_)) ?_
  rintro k ⟨hk, hkb, he⟩
  by_cases h1 : k < a.length
  · by_cases h2 : k < b.length
    · rw [cmpI_step h1 h2] at he
      repeat' (first
  | refine G_nilC ?_
  | refine G_nilN ?_
  | refine G_nilH ?_
  | (refine G_nil ?_; try clear ri_; try clear ops_)
  | (refine V_op ?_; first | exact True.intro | (intro v_ h_ w_ r_ t_; try (obtain ⟨ta_, tb_⟩ := (t_ : _ ∧ _)); try (obtain ⟨tb_, tc_⟩ := (tb_ : _ ∧ _)); try (obtain ⟨tc_, td_⟩ := (tc_ : _ ∧ _)); try (obtain ⟨td_, te_⟩ := (td_ : _ ∧ _))) | intro (ops_ : Array Oper) ri_ | intro (b_ : Bool) hb_ | (intro v_ h_; try (have o_ := FrzK.one h_)) | intro (v_ : Value) | intro (b_ : Nat) | (refine ⟨fun hc => ?_, fun hc => ?_⟩ <;> try (exfalso; omega)) | refine ⟨?_, ?_⟩ | intro _ | skip)
  | (refine Is_DQ ?_; first | (apply DQ_m rfl rfl rfl rfl; focus (intro wq_ Oq_ rq_ mm; (repeat (first | (refine G_nil ?_; exact X_done rfl (List.Sublist.refl _)) | refine V_op ?_)); done)) | (apply DQ_k rfl rfl rfl rfl; intro wq_ Oq_ rq_ mm) | (apply DQ_y rfl rfl rfl rfl; intro wq_ Oq_ rq_ mm)))
      · refine ret_ rfl (by repeat (first | exact ResAll.nil | (apply ResAll.cons; first | exact .tmp rfl | exact .cell rfl rfl | exact .one rfl))) fun w' h' => ?_
        rw [if_pos (by omega)] at he
        exact .mk (by rw [← he]) h'
      · refine ret_ rfl (by repeat (first | exact ResAll.nil | (apply ResAll.cons; first | exact .tmp rfl | exact .cell rfl rfl | exact .one rfl))) fun w' h' => ?_
        rw [if_neg (by omega), if_pos (by omega)] at he
        exact .mk (by rw [← he]) h'
      · rw [if_neg (by omega), if_neg (by omega)] at he
        exact At_roundS (k + 1) ⟨by omega, by omega, he⟩ (by omega) (by repeat (first | exact trivial | refine And.intro rfl ?_)) (by repeat (first | exact trivial | refine And.intro rfl ?_))
    · rw [cmpI_out h1 (by omega)] at he
      repeat' (first
  | refine G_nilC ?_
  | refine G_nilN ?_
  | refine G_nilH ?_
  | (refine G_nil ?_; try clear ri_; try clear ops_)
  | (refine V_op ?_; first | exact True.intro | (intro v_ h_ w_ r_ t_; try (obtain ⟨ta_, tb_⟩ := (t_ : _ ∧ _)); try (obtain ⟨tb_, tc_⟩ := (tb_ : _ ∧ _)); try (obtain ⟨tc_, td_⟩ := (tc_ : _ ∧ _)); try (obtain ⟨td_, te_⟩ := (td_ : _ ∧ _))) | intro (ops_ : Array Oper) ri_ | intro (b_ : Bool) hb_ | (intro v_ h_; try (have o_ := FrzK.one h_)) | intro (v_ : Value) | intro (b_ : Nat) | (refine ⟨fun hc => ?_, fun hc => ?_⟩ <;> try (exfalso; omega)) | refine ⟨?_, ?_⟩ | intro _ | skip)
  | (refine Is_DQ ?_; first | (apply DQ_m rfl rfl rfl rfl; focus (intro wq_ Oq_ rq_ mm; (repeat (first | (refine G_nil ?_; exact X_done rfl (List.Sublist.refl _)) | refine V_op ?_)); done)) | (apply DQ_k rfl rfl rfl rfl; intro wq_ Oq_ rq_ mm) | (apply DQ_y rfl rfl rfl rfl; intro wq_ Oq_ rq_ mm)))
      refine ret_ rfl (by repeat (first | exact ResAll.nil | (apply ResAll.cons; first | exact .tmp rfl | exact .cell rfl rfl | exact .one rfl))) fun w' h' => ?_
      exact .mk (by rw [← he]) h'
  · rw [cmpI_end (by omega)] at he
    repeat' (first
  | refine G_nilC ?_
  | refine G_nilN ?_
  | refine G_nilH ?_
  | (refine G_nil ?_; try clear ri_; try clear ops_)
  | (refine V_op ?_; first | exact True.intro | (intro v_ h_ w_ r_ t_; try (obtain ⟨ta_, tb_⟩ := (t_ : _ ∧ _)); try (obtain ⟨tb_, tc_⟩ := (tb_ : _ ∧ _)); try (obtain ⟨tc_, td_⟩ := (tc_ : _ ∧ _)); try (obtain ⟨td_, te_⟩ := (td_ : _ ∧ _))) | intro (ops_ : Array Oper) ri_ | intro (b_ : Bool) hb_ | (intro v_ h_; try (have o_ := FrzK.one h_)) | intro (v_ : Value) | intro (b_ : Nat) | (refine ⟨fun hc => ?_, fun hc => ?_⟩ <;> try (exfalso; omega)) | refine ⟨?_, ?_⟩ | intro _ | skip)
  | (refine Is_DQ ?_; first | (apply DQ_m rfl rfl rfl rfl; focus (intro wq_ Oq_ rq_ mm; (repeat (first | (refine G_nil ?_; exact X_done rfl (List.Sublist.refl _)) | refine V_op ?_)); done)) | (apply DQ_k rfl rfl rfl rfl; intro wq_ Oq_ rq_ mm) | (apply DQ_y rfl rfl rfl rfl; intro wq_ Oq_ rq_ mm)))
    · refine ret_ rfl (by repeat (first | exact ResAll.nil | (apply ResAll.cons; first | exact .tmp rfl | exact .cell rfl rfl | exact .one rfl))) fun w' h' => ?_
      rw [if_neg (by omega)] at he
      exact .mk (by rw [← he]) h'
    · refine ret_ rfl (by repeat (first | exact ResAll.nil | (apply ResAll.cons; first | exact .tmp rfl | exact .cell rfl rfl | exact .one rfl))) fun w' h' => ?_
      rw [if_pos (by omega)] at he
      exact .mk (by rw [← he]) h'
section
variable {w0 : World} {O : List Nat} {m : List As} {v v' : Value} {a b : List Int}
instance [h : RdR w0 O m v a] [h' : RdR w0 O m v' b] : CallV Try.prog w0 O m 26 [v, v'] True (I (cmpI a b)) := ⟨fun _ w hw => @lib_Compare w v v' a b (RdOld.of (h.rd w hw)) (RdOld.of (h'.rd w hw))⟩
instance [h : RdR w0 O m v a] [h' : RdR w0 O m v' b] : CallV Try.prog w0 O m 27 [v, v'] True (I (cmpI a b)) := ⟨fun _ w hw => @ref_CmpInts w v v' a b (RdOld.of (h.rd w hw)) (RdOld.of (h'.rd w hw))⟩
end
theorem cmp_kind (k k' : Int) (a b : List Int) : (if k = k' then cmpI a b else sgI k k') = cmpI (k :: a) (k' :: b) := by
  rw [cmpI, sgI]
  split
  · rename_i h; rw [if_neg (by omega), if_neg (by omega)]
  · split
    · rfl
    · rw [if_pos (by omega), if_pos (by omega)]
theorem run_Cmp (w : World) (k k' : Int) (i d i' d' : Value) (a a' : List Int) (b b' : List (BitVec 8)) [RdOld w [] i a] [RdOld w [] d b] [RdOld w [] i' a'] [RdOld w [] d' b'] :
    Calls Try.prog 14 #[.agg #[I k, i, d], .agg #[I k', i', d']] w (Is w (I (cmpI (k :: a) (k' :: a')))) := by
  rw [← cmp_kind]
  refine enter (N := 20) (args := [.agg #[I k, i, d], .agg #[I k', i', d']]) Try.func14 rfl rfl rfl (St.refl w) ?_
  repeat' (first
  | refine G_nilC ?_
  | refine G_nilN ?_
  | refine G_nilH ?_
  | (refine G_nil ?_; try clear ri_; try clear ops_)
  | (refine V_op ?_; first | exact True.intro | (intro v_ h_ w_ r_ t_; try (obtain ⟨ta_, tb_⟩ := (t_ : _ ∧ _)); try (obtain ⟨tb_, tc_⟩ := (tb_ : _ ∧ _)); try (obtain ⟨tc_, td_⟩ := (tc_ : _ ∧ _)); try (obtain ⟨td_, te_⟩ := (td_ : _ ∧ _))) | intro (ops_ : Array Oper) ri_ | intro (b_ : Bool) hb_ | (intro v_ h_; try (have o_ := FrzK.one h_)) | intro (v_ : Value) | intro (b_ : Nat) | (refine ⟨fun hc => ?_, fun hc => ?_⟩ <;> try (exfalso; omega)) | refine ⟨?_, ?_⟩ | intro _ | skip)
  | (refine Is_DQ ?_; first | (apply DQ_m rfl rfl rfl rfl; focus (intro wq_ Oq_ rq_ mm; (repeat (first | (refine G_nil ?_; exact X_done rfl (List.Sublist.refl _)) | refine V_op ?_)); done)) | (apply DQ_k rfl rfl rfl rfl; intro wq_ Oq_ rq_ mm) | (apply DQ_y rfl rfl rfl rfl; intro wq_ Oq_ rq_ mm)))
  · refine ret_ rfl (by repeat (first | exact ResAll.nil | (apply ResAll.cons; first | exact .tmp rfl | exact .cell rfl rfl | exact .one rfl))) fun w' h' => ?_
    rw [if_neg (by omega)]
    exact .mk rfl h'
  · refine ret_ rfl (by repeat (first | exact ResAll.nil | (apply ResAll.cons; first | exact .tmp rfl | exact .cell rfl rfl | exact .one rfl))) fun w' h' => ?_
    rw [if_pos (by omega)]
    exact .mk rfl h'
theorem ref_Cmp (w : World) (k k' : Int) (i d i' d' : Value) (a a' : List Int) (b b' : List (BitVec 8)) [RdOld w [] i a] [RdOld w [] d b] [RdOld w [] i' a'] [RdOld w [] d' b'] (ha : a.length ≤ 100000) (ha' : a'.length ≤ 100000) :
    Calls Try.prog 15 #[.agg #[I k, i, d], .agg #[I k', i', d']] w (Is w (I (cmpI (k :: a) (k' :: a')))) := by
  haveI := DrH_15_1
  refine enter (N := 18) (args := [.agg #[I k, i, d], .agg #[I k', i', d']]) Try.func15 rfl rfl rfl (St.refl w) ?_
  repeat' (first
  | refine G_nilC ?_
  | refine G_nilN ?_
  | refine G_nilH ?_
  | (refine G_nil ?_; try clear ri_; try clear ops_)
  | (refine V_op ?_; first | exact True.intro | (intro v_ h_ w_ r_ t_; try (obtain ⟨ta_, tb_⟩ := (t_ : _ ∧ _)); try (obtain ⟨tb_, tc_⟩ := (tb_ : _ ∧ _)); try (obtain ⟨tc_, td_⟩ := (tc_ : _ ∧ _)); try (obtain ⟨td_, te_⟩ := (td_ : _ ∧ _))) | intro (ops_ : Array Oper) ri_ | intro (b_ : Bool) hb_ | (intro v_ h_; try (have o_ := FrzK.one h_)) | intro (v_ : Value) | intro (b_ : Nat) | (refine ⟨fun hc => ?_, fun hc => ?_⟩ <;> try (exfalso; omega)) | refine ⟨?_, ?_⟩ | intro _ | skip)
  | (refine Is_DQ ?_; first | (apply DQ_m rfl rfl rfl rfl; focus (intro wq_ Oq_ rq_ mm; (repeat (first | (refine G_nil ?_; exact X_done rfl (List.Sublist.refl _)) | refine V_op ?_)); done)) | (apply DQ_k rfl rfl rfl rfl; intro wq_ Oq_ rq_ mm) | (apply DQ_y rfl rfl rfl rfl; intro wq_ Oq_ rq_ mm)))
  all_goals
    refine ret_ rfl (by repeat (first | exact ResAll.nil | (apply ResAll.cons; first | exact .tmp rfl | exact .cell rfl rfl | exact .one rfl))) fun w' h' => ?_
    exact .mk rfl h'
section
variable {w0 : World} {O : List Nat} {m : List As} {i i' d d' : Value} {a a' : List Int} {b b' : List (BitVec 8)} {k k' : Int}
instance [h1 : RdR w0 O m i a] [h2 : RdR w0 O m d b] [h3 : RdR w0 O m i' a'] [h4 : RdR w0 O m d' b'] : CallV Try.prog w0 O m 14 [.agg #[.int .i64 k, i, d], .agg #[.int .i64 k', i', d']] True (I (cmpI (k :: a) (k' :: a'))) :=
  ⟨fun _ w hw => @run_Cmp w k k' i d i' d' a a' b b' (RdOld.of (h1.rd w hw)) (RdOld.of (h2.rd w hw)) (RdOld.of (h3.rd w hw)) (RdOld.of (h4.rd w hw))⟩
instance [h1 : RdR w0 O m i a] [h2 : RdR w0 O m d b] [h3 : RdR w0 O m i' a'] [h4 : RdR w0 O m d' b'] : CallV Try.prog w0 O m 15 [.agg #[.int .i64 k, i, d], .agg #[.int .i64 k', i', d']] (a.length ≤ 100000 ∧ a'.length ≤ 100000) (I (cmpI (k :: a) (k' :: a'))) :=
  ⟨fun hs w hw => @ref_Cmp w k k' i d i' d' a a' b b' (RdOld.of (h1.rd w hw)) (RdOld.of (h2.rd w hw)) (RdOld.of (h3.rd w hw)) (RdOld.of (h4.rd w hw)) hs.1 hs.2⟩
end
theorem ref_SameF (w : World) (k k' : Int) (i d i' d' : Value) (a a' : List Int) (b b' : List (BitVec 8)) [RdOld w [] i a] [RdOld w [] d b] [RdOld w [] i' a'] [RdOld w [] d' b'] (ha : a.length ≤ 100000) (ha' : a'.length ≤ 100000) :
    Calls Try.prog 30 #[.agg #[I k, i, d], .agg #[I k', i', d']] w (Is w (.bool (decide (k = k' ∧ a = a' ∧ b = b')))) := by
  refine enter (N := 16) (args := [.agg #[I k, i, d], .agg #[I k', i', d']]) Try.func30 rfl rfl rfl (St.refl w) ?_
  repeat' (first
  | refine G_nilC ?_
  | refine G_nilN ?_
  | refine G_nilH ?_
  | (refine G_nil ?_; try clear ri_; try clear ops_)
  | (refine V_op ?_; first | exact True.intro | (intro v_ h_ w_ r_ t_; try (obtain ⟨ta_, tb_⟩ := (t_ : _ ∧ _)); try (obtain ⟨tb_, tc_⟩ := (tb_ : _ ∧ _)); try (obtain ⟨tc_, td_⟩ := (tc_ : _ ∧ _)); try (obtain ⟨td_, te_⟩ := (td_ : _ ∧ _))) | intro (ops_ : Array Oper) ri_ | intro (b_ : Bool) hb_ | (intro v_ h_; try (have o_ := FrzK.one h_)) | intro (v_ : Value) | intro (b_ : Nat) | (refine ⟨fun hc => ?_, fun hc => ?_⟩ <;> try (exfalso; omega)) | refine ⟨?_, ?_⟩ | intro _ | skip)
  | (refine Is_DQ ?_; first | (apply DQ_m rfl rfl rfl rfl; focus (intro wq_ Oq_ rq_ mm; (repeat (first | (refine G_nil ?_; exact X_done rfl (List.Sublist.refl _)) | refine V_op ?_)); done)) | (apply DQ_k rfl rfl rfl rfl; intro wq_ Oq_ rq_ mm) | (apply DQ_y rfl rfl rfl rfl; intro wq_ Oq_ rq_ mm)))
  · have h1 : k :: a = k' :: a' := cmpI_eq.1 hc
    refine ret_ rfl (by repeat (first | exact ResAll.nil | (apply ResAll.cons; first | exact .tmp rfl | exact .cell rfl rfl | exact .one rfl))) fun w' h' => ?_
    refine .mk ?_ h'
    cases h1
    simp [retV]
  · have h1 : ¬ k :: a = k' :: a' := fun h => hc (cmpI_eq.2 h)
    refine ret_ rfl (by repeat (first | exact ResAll.nil | (apply ResAll.cons; first | exact .tmp rfl | exact .cell rfl rfl | exact .one rfl))) fun w' h' => ?_
    refine .mk ?_ h'
    rw [decide_eq_false]
    · rintro ⟨rfl, rfl, _⟩; exact h1 rfl
instance {w0 : World} {O : List Nat} {m : List As} {i i' d d' : Value} {a a' : List Int} {b b' : List (BitVec 8)} {k k' : Int} [h1 : RdR w0 O m i a] [h2 : RdR w0 O m d b] [h3 : RdR w0 O m i' a'] [h4 : RdR w0 O m d' b'] : CallV Try.prog w0 O m 30 [.agg #[.int .i64 k, i, d], .agg #[.int .i64 k', i', d']] (a.length ≤ 100000 ∧ a'.length ≤ 100000) (.bool (decide (k = k' ∧ a = a' ∧ b = b'))) :=
  ⟨fun hs w hw => @ref_SameF w k k' i d i' d' a a' b b' (RdOld.of (h1.rd w hw)) (RdOld.of (h2.rd w hw)) (RdOld.of (h3.rd w hw)) (RdOld.of (h4.rd w hw)) hs.1 hs.2⟩
def den (x : api_File) : Fl := ⟨x.Kind, x.Id.l, x.Data.l⟩
def idOk (l : List api_File) : Prop := ∀ x ∈ l, x.Id.l.length ≤ 100000
theorem ref_SameFiles (w : World) (v v' : Value) (l l' : List api_File) [h : RdOld w [] v l] [h' : RdOld w [] v' l'] [TruL w [] l] [TruL w [] l'] (hi : idOk l) (hi' : idOk l') :
    Calls Try.prog 21 #[v, v'] w (Is w (.bool (decide (l.map den = l'.map den)))) := by
  have hl := h.rd.len_le
  have hl' := h'.rd.len_le
  refine enter (N := 27) (args := [v, v']) Try.func21 rfl rfl rfl (St.refl w) ?_
  repeat' (first
  | refine G_nilC ?_
  | refine G_nilN ?_
  | refine G_nilH ?_
  | (refine G_nil ?_; try clear ri_; try clear ops_)
  | (refine V_op ?_; first | exact True.intro | (intro v_ h_ w_ r_ t_; try (obtain ⟨ta_, tb_⟩ := (t_ : _ ∧ _)); try (obtain ⟨tb_, tc_⟩ := (tb_ : _ ∧ _)); try (obtain ⟨tc_, td_⟩ := (tc_ : _ ∧ _)); try (obtain ⟨td_, te_⟩ := (td_ : _ ∧ _))) | intro (ops_ : Array Oper) ri_ | intro (b_ : Bool) hb_ | (intro v_ h_; try (have o_ := FrzK.one h_)) | intro (v_ : Value) | intro (b_ : Nat) | (refine ⟨fun hc => ?_, fun hc => ?_⟩ <;> try (exfalso; omega)) | refine ⟨?_, ?_⟩ | intro _ | skip)
  | (refine Is_DQ ?_; first | (apply DQ_m rfl rfl rfl rfl; focus (intro wq_ Oq_ rq_ mm; (repeat (first | (refine G_nil ?_; exact X_done rfl (List.Sublist.refl _)) | refine V_op ?_)); done)) | (apply DQ_k rfl rfl rfl rfl; intro wq_ Oq_ rq_ mm) | (apply DQ_y rfl rfl rfl rfl; intro wq_ Oq_ rq_ mm)))
  · refine ret_ rfl (by repeat (first | exact ResAll.nil | (apply ResAll.cons; first | exact .tmp rfl | exact .cell rfl rfl | exact .one rfl))) fun w' h' => ?_
    refine .mk ?_ h'
    rw [decide_eq_false]
    · intro he
      have := congrArg List.length he
      simp only [List.length_map] at this
      omega
  · refine GC_loopS (X := Nat) (fun k => k ≤ l.length ∧ (l.map den).take k = (l'.map den).take k) (fun k s => (5, I k) :: s) (fun _ r => r) (fun k => l.length - k) 0 ⟨Nat.zero_le _, by simp⟩ (by repeat (first | exact trivial | refine And.intro rfl ?_)) ?_
    rintro k ⟨hk, he⟩
    by_cases h1 : k < l.length
    · have h2 : k < l'.length := by omega
      have e1 := hi _ (List.getElem_mem h1)
      have e2 := hi' _ (List.getElem_mem h2)
      have hst := same_step (l := l.map den) (l' := l'.map den) (by simpa using h1) (by simpa using h2) he
      simp only [List.getElem_map] at hst
      repeat' (first
  | refine G_nilC ?_
  | refine G_nilN ?_
  | refine G_nilH ?_
  | (refine G_nil ?_; try clear ri_; try clear ops_)
  | (refine V_op ?_; first | exact True.intro | (intro v_ h_ w_ r_ t_; try (obtain ⟨ta_, tb_⟩ := (t_ : _ ∧ _)); try (obtain ⟨tb_, tc_⟩ := (tb_ : _ ∧ _)); try (obtain ⟨tc_, td_⟩ := (tc_ : _ ∧ _)); try (obtain ⟨td_, te_⟩ := (td_ : _ ∧ _))) | intro (ops_ : Array Oper) ri_ | intro (b_ : Bool) hb_ | (intro v_ h_; try (have o_ := FrzK.one h_)) | intro (v_ : Value) | intro (b_ : Nat) | (refine ⟨fun hc => ?_, fun hc => ?_⟩ <;> try (exfalso; omega)) | refine ⟨?_, ?_⟩ | intro _ | skip)
  | (refine Is_DQ ?_; first | (apply DQ_m rfl rfl rfl rfl; focus (intro wq_ Oq_ rq_ mm; (repeat (first | (refine G_nil ?_; exact X_done rfl (List.Sublist.refl _)) | refine V_op ?_)); done)) | (apply DQ_k rfl rfl rfl rfl; intro wq_ Oq_ rq_ mm) | (apply DQ_y rfl rfl rfl rfl; intro wq_ Oq_ rq_ mm)))
      · refine ret_ rfl (by repeat (first | exact ResAll.nil | (apply ResAll.cons; first | exact .tmp rfl | exact .cell rfl rfl | exact .one rfl))) fun w' h' => ?_
        refine .mk ?_ h'
        rw [decide_eq_false]
        · intro hf
          refine hc ?_
          have h3 := hst.1 (by rw [hf])
          simp only [den, Fl.mk.injEq] at h3
          exact h3
      · have hc := Decidable.not_not.1 hc
        refine At_roundS (k + 1) ⟨by omega, hst.2 ?_⟩ (by omega) (by repeat (first | exact trivial | refine And.intro rfl ?_)) (by repeat (first | exact trivial | refine And.intro rfl ?_))
        simp only [den, Fl.mk.injEq]
        exact hc
    · repeat' (first
  | refine G_nilC ?_
  | refine G_nilN ?_
  | refine G_nilH ?_
  | (refine G_nil ?_; try clear ri_; try clear ops_)
  | (refine V_op ?_; first | exact True.intro | (intro v_ h_ w_ r_ t_; try (obtain ⟨ta_, tb_⟩ := (t_ : _ ∧ _)); try (obtain ⟨tb_, tc_⟩ := (tb_ : _ ∧ _)); try (obtain ⟨tc_, td_⟩ := (tc_ : _ ∧ _)); try (obtain ⟨td_, te_⟩ := (td_ : _ ∧ _))) | intro (ops_ : Array Oper) ri_ | intro (b_ : Bool) hb_ | (intro v_ h_; try (have o_ := FrzK.one h_)) | intro (v_ : Value) | intro (b_ : Nat) | (refine ⟨fun hc => ?_, fun hc => ?_⟩ <;> try (exfalso; omega)) | refine ⟨?_, ?_⟩ | intro _ | skip)
  | (refine Is_DQ ?_; first | (apply DQ_m rfl rfl rfl rfl; focus (intro wq_ Oq_ rq_ mm; (repeat (first | (refine G_nil ?_; exact X_done rfl (List.Sublist.refl _)) | refine V_op ?_)); done)) | (apply DQ_k rfl rfl rfl rfl; intro wq_ Oq_ rq_ mm) | (apply DQ_y rfl rfl rfl rfl; intro wq_ Oq_ rq_ mm)))
      refine ret_ rfl (by repeat (first | exact ResAll.nil | (apply ResAll.cons; first | exact .tmp rfl | exact .cell rfl rfl | exact .one rfl))) fun w' h' => ?_
      refine .mk ?_ h'
      rw [List.take_of_length_le (by simp; omega), List.take_of_length_le (by simp; omega)] at he
      rw [decide_eq_true he]
class IdK (l : List api_File) : Prop where
  h : idOk l
class SmF (gs : List Fl) : Prop where
  h : ∀ g ∈ gs, g.id.length ≤ 100000
theorem idOk_den {fs : List api_File} {gs : List Fl} (h : fs.map den = gs) (hg : ∀ g ∈ gs, g.id.length ≤ 100000) : idOk fs := fun x hx => by
  have : den x ∈ gs := by rw [← h]; exact List.mem_map_of_mem hx
  exact hg _ this
class DenF (l : List api_File) (gs : outParam (List Fl)) : Prop where
  h : l.map den = gs
instance idK_den {l : List api_File} {gs : List Fl} [h : DenF l gs] [h' : SmF gs] : IdK l := ⟨idOk_den h.h h'.h⟩
instance yes_den {l l' : List api_File} {gs : List Fl} [h : DenF l gs] [h' : DenF l' gs] : Yes (l.map den = l'.map den) := ⟨by rw [h.h, h'.h]⟩
instance {w0 : World} {O : List Nat} {m : List As} {v v' : Value} {l l' : List api_File} [h : RdR w0 O m v l] [h' : RdR w0 O m v' l'] [ht : TruL w0 O l] [ht' : TruL w0 O l'] [hi : IdK l] [hi' : IdK l'] : CallV Try.prog w0 O m 21 [v, v'] True (.bool (decide (l.map den = l'.map den))) :=
  ⟨fun hs w hw => by
    haveI : TruL w [] l := ⟨fun x hx => Dp.lift hw (fun b hb => by simp at hb) (ht.h x hx)⟩
    haveI : TruL w [] l' := ⟨fun x hx => Dp.lift hw (fun b hb => by simp at hb) (ht'.h x hx)⟩
    exact @ref_SameFiles w v v' l l' (RdOld.of (h.rd w hw)) (RdOld.of (h'.rd w hw)) _ _ hi.h hi'.h⟩
end Go.Proofs.Ytdngfkmigpnbnaa
