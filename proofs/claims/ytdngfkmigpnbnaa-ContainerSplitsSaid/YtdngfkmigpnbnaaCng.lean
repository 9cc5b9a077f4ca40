/- Container: made files, sealed forms. -/
import Derived.Test.YtdngfkmigpnbnaaCne
import Derived.Test.YtdngfkmigpnbnaaCnf
set_option linter.unusedVariables false
set_option linter.unusedSimpArgs false
set_option maxRecDepth 100000
set_option maxHeartbeats 4000000
namespace Go.Proofs.Ytdngfkmigpnbnaa
open Go.RowKit
attribute [local irreducible] G GC At wpL DR XPost CPost Cut GA GAR GAX GAt NxA GH GHR NxH
attribute [local irreducible] packB sumB

theorem ref_Made (w0 : World) (O : List Nat) (m : List As) (k : BitVec 8) (i d : Value) (l : List Int) (b : List (BitVec 8)) [h1 : RdOld w0 O i l] [h2 : RdOld w0 O d b] (w : World) (hw : St w0 O m w) :
    Calls Try.prog 10 #[.agg #[B8 k, i, d]] w (fun y w' => ∃ q : OldV w0 O (l.take 40) × OldV w0 O (b.take 200), True ∧ y = .returned (.agg #[I (1 + k.toNat % 9), q.1.v, q.2.v]) ∧ St w0 O m w') := by
  have hl := h1.rd.len_le
  have hb := h2.rd.len_le
  refine enterF (N := 23) (args := [.agg #[B8 k, i, d]]) Try.func10 rfl rfl rfl hw ?_
  have e1 : (min (l.length : Int) 40).toNat = min l.length 40 := by omega
  have e2 : (min (b.length : Int) 200).toNat = min b.length 200 := by omega
  repeat' (first
  | refine G_nilC ?_
  | refine G_nilN ?_
  | refine G_nilH ?_
  | (refine G_nil ?_; try clear ri_; try clear ops_)
  | (refine V_op ?_; first | exact True.intro | (intro v_ h_ w_ r_ t_; try (obtain ⟨ta_, tb_⟩ := (t_ : _ ∧ _)); try (obtain ⟨tb_, tc_⟩ := (tb_ : _ ∧ _)); try (obtain ⟨tc_, td_⟩ := (tc_ : _ ∧ _)); try (obtain ⟨td_, te_⟩ := (td_ : _ ∧ _))) | intro (ops_ : Array Oper) ri_ | intro (b_ : Bool) hb_ | (intro v_ h_; try (have o_ := FrzK.one h_)) | intro (v_ : Value) | intro (b_ : Nat) | (refine ⟨fun hc => ?_, fun hc => ?_⟩ <;> try (exfalso; omega)) | refine ⟨?_, ?_⟩ | intro _ | skip)
  | (refine Is_DQ ?_; first | (apply DQ_m rfl rfl rfl rfl; focus (intro wq_ Oq_ rq_ mm; (repeat (first | (refine G_nil ?_; exact X_done rfl (List.Sublist.refl _)) | refine V_op ?_)); done)) | (apply DQ_k rfl rfl rfl rfl; intro wq_ Oq_ rq_ mm) | (apply DQ_y rfl rfl rfl rfl; intro wq_ Oq_ rq_ mm)))
  refine ret_ rfl (by repeat (first | exact ResAll.nil | (apply ResAll.cons; first | exact .tmp rfl | exact .cell rfl rfl | exact .one rfl))) fun w' h' => ?_
  refine ⟨(⟨_, ?_⟩, ⟨_, ?_⟩), trivial, rfl, SubM.ent.st h'⟩
  · have := rdOld_cutT h1 (lo := 0) (hi := (min (l.length : Int) 40).toNat) (Nat.zero_le _) (by omega)
    rw [e1] at this ⊢
    have e : (l.drop 0).take (min l.length 40 - 0) = l.take 40 := by
      rw [List.drop_zero, Nat.sub_zero, Nat.min_comm, ← List.take_take, List.take_length]
    rw [e] at this
    exact this
  · have := rdOld_cutT h2 (lo := 0) (hi := (min (b.length : Int) 200).toNat) (Nat.zero_le _) (by omega)
    rw [e2] at this ⊢
    have e : (b.drop 0).take (min b.length 200 - 0) = b.take 200 := by
      rw [List.drop_zero, Nat.sub_zero, Nat.min_comm, ← List.take_take, List.take_length]
    rw [e] at this
    exact this
/-- the error of sealing -/
def seE (f : Fl) : Int := if ¬ (1 ≤ f.k ∧ f.k ≤ 9) ∨ 40 < f.id.length then 1 else if 65536 < f.da.length then 2 else 0
def seR (f : Fl) : List (BitVec 8) := if seE f = 0 then seB f else []
theorem run_Seal (w : World) (k : Int) (i d : Value) (l : List Int) (b : List (BitVec 8)) [h1 : RdOld w [] i l] [h2 : RdOld w [] d b] (hi : okI l) :
    Calls Try.prog 23 #[.agg #[I k, i, d]] w (Ret w [] (fun _ : Value => True) (fun r => .tuple #[r, I (seE ⟨k, l, b⟩)]) (fun r => [row r 5 (seR ⟨k, l, b⟩)])) := by
  have hl := h1.rd.len_le
  have hb := h2.rd.len_le
  by_cases hk : ¬ (1 ≤ k ∧ k ≤ 9) ∨ 40 < l.length
  · have e1 : seE ⟨k, l, b⟩ = 1 := by rw [seE, if_pos hk]
    have e2 : seR ⟨k, l, b⟩ = [] := by rw [seR, e1]; rfl
    rw [e1, e2]
    refine enter (N := 47) (args := [.agg #[I k, i, d]]) Try.func23 rfl rfl rfl (St.refl w) ?_
    repeat' (first
  | refine G_nilC ?_
  | refine G_nilN ?_
  | refine G_nilH ?_
  | (refine G_nil ?_; try clear ri_; try clear ops_)
  | (refine V_op ?_; first | exact True.intro | (intro v_ h_ w_ r_ t_; try (obtain ⟨ta_, tb_⟩ := (t_ : _ ∧ _)); try (obtain ⟨tb_, tc_⟩ := (tb_ : _ ∧ _)); try (obtain ⟨tc_, td_⟩ := (tc_ : _ ∧ _)); try (obtain ⟨td_, te_⟩ := (td_ : _ ∧ _))) | intro (ops_ : Array Oper) ri_ | intro (b_ : Bool) hb_ | (intro v_ h_; try (have o_ := FrzK.one h_)) | intro (v_ : Value) | intro (b_ : Nat) | (refine ⟨fun hc => ?_, fun hc => ?_⟩ <;> try (exfalso; omega)) | refine ⟨?_, ?_⟩ | intro _ | skip)
  | (refine Is_DQ ?_; first | (apply DQ_m rfl rfl rfl rfl; focus (intro wq_ Oq_ rq_ mm; (repeat (first | (refine G_nil ?_; exact X_done rfl (List.Sublist.refl _)) | refine V_op ?_)); done)) | (apply DQ_k rfl rfl rfl rfl; intro wq_ Oq_ rq_ mm) | (apply DQ_y rfl rfl rfl rfl; intro wq_ Oq_ rq_ mm)))
    all_goals
      refine ret_ rfl (by repeat (first | exact ResAll.nil | (apply ResAll.cons; first | exact .tmp rfl | exact .cell rfl rfl | exact .one rfl))) fun w' h' => ?_
      exact .mk (.slice none 0 0) trivial rfl h'
  · by_cases hd : 65536 < b.length
    · have e1 : seE ⟨k, l, b⟩ = 2 := by rw [seE, if_neg hk, if_pos hd]
      have e2 : seR ⟨k, l, b⟩ = [] := by rw [seR, e1]; rfl
      rw [e1, e2]
      refine enter (N := 47) (args := [.agg #[I k, i, d]]) Try.func23 rfl rfl rfl (St.refl w) ?_
      repeat' (first
  | refine G_nilC ?_
  | refine G_nilN ?_
  | refine G_nilH ?_
  | (refine G_nil ?_; try clear ri_; try clear ops_)
  | (refine V_op ?_; first | exact True.intro | (intro v_ h_ w_ r_ t_; try (obtain ⟨ta_, tb_⟩ := (t_ : _ ∧ _)); try (obtain ⟨tb_, tc_⟩ := (tb_ : _ ∧ _)); try (obtain ⟨tc_, td_⟩ := (tc_ : _ ∧ _)); try (obtain ⟨td_, te_⟩ := (td_ : _ ∧ _))) | intro (ops_ : Array Oper) ri_ | intro (b_ : Bool) hb_ | (intro v_ h_; try (have o_ := FrzK.one h_)) | intro (v_ : Value) | intro (b_ : Nat) | (refine ⟨fun hc => ?_, fun hc => ?_⟩ <;> try (exfalso; omega)) | refine ⟨?_, ?_⟩ | intro _ | skip)
  | (refine Is_DQ ?_; first | (apply DQ_m rfl rfl rfl rfl; focus (intro wq_ Oq_ rq_ mm; (repeat (first | (refine G_nil ?_; exact X_done rfl (List.Sublist.refl _)) | refine V_op ?_)); done)) | (apply DQ_k rfl rfl rfl rfl; intro wq_ Oq_ rq_ mm) | (apply DQ_y rfl rfl rfl rfl; intro wq_ Oq_ rq_ mm)))
      refine ret_ rfl (by repeat (first | exact ResAll.nil | (apply ResAll.cons; first | exact .tmp rfl | exact .cell rfl rfl | exact .one rfl))) fun w' h' => ?_
      exact .mk (.slice none 0 0) trivial rfl h'
    · have e1 : seE ⟨k, l, b⟩ = 0 := by rw [seE, if_neg hk, if_neg hd]
      have e2 : seR ⟨k, l, b⟩ = seB ⟨k, l, b⟩ := by rw [seR, if_pos e1]
      have e3 : pkB l = packB l := by rw [pkB, if_pos (by omega)]
      have e4 : pkE l = 0 := by rw [pkE, if_pos (by omega)]
      haveI : Eqn (pkB l) (packB l) := ⟨e3⟩
      haveI : Eqn (pkE l) 0 := ⟨e4⟩
      rw [e1, e2]
      have hpk := packB_le (l := l) (by omega)
      have hvl := vint_10 (BitVec.ofNat 64 b.length)
      have hpl : (67#8 :: 72#8 :: 77#8 :: BitVec.ofInt 8 k :: packB l).length = (packB l).length + 4 := by simp only [List.length_cons]
      have hph : (67#8 :: 72#8 :: 77#8 :: BitVec.ofInt 8 k :: (packB l ++ (vint (BitVec.ofNat 64 b.length) ++ b))).length ≤ 200000 := by simp only [List.length_cons, List.length_append]; omega
      have e5 : seB ⟨k, l, b⟩ = (67#8 :: 72#8 :: 77#8 :: BitVec.ofInt 8 k :: (packB l ++ (vint (BitVec.ofNat 64 b.length) ++ b))) ++ sumB (67#8 :: 72#8 :: 77#8 :: BitVec.ofInt 8 k :: (packB l ++ (vint (BitVec.ofNat 64 b.length) ++ b))) := rfl
      refine enter (N := 47) (args := [.agg #[I k, i, d]]) Try.func23 rfl rfl rfl (St.refl w) ?_
      repeat' (first
  | refine G_nilC ?_
  | refine G_nilN ?_
  | refine G_nilH ?_
  | (refine G_nil ?_; try clear ri_; try clear ops_)
  | (refine V_op ?_; first | exact True.intro | (intro v_ h_ w_ r_ t_; try (obtain ⟨ta_, tb_⟩ := (t_ : _ ∧ _)); try (obtain ⟨tb_, tc_⟩ := (tb_ : _ ∧ _)); try (obtain ⟨tc_, td_⟩ := (tc_ : _ ∧ _)); try (obtain ⟨td_, te_⟩ := (td_ : _ ∧ _))) | intro (ops_ : Array Oper) ri_ | intro (b_ : Bool) hb_ | (intro v_ h_; try (have o_ := FrzK.one h_)) | intro (v_ : Value) | intro (b_ : Nat) | (refine ⟨fun hc => ?_, fun hc => ?_⟩ <;> try (exfalso; omega)) | refine ⟨?_, ?_⟩ | intro _ | skip)
  | (refine Is_DQ ?_; first | (apply DQ_m rfl rfl rfl rfl; focus (intro wq_ Oq_ rq_ mm; (repeat (first | (refine G_nil ?_; exact X_done rfl (List.Sublist.refl _)) | refine V_op ?_)); done)) | (apply DQ_k rfl rfl rfl rfl; intro wq_ Oq_ rq_ mm) | (apply DQ_y rfl rfl rfl rfl; intro wq_ Oq_ rq_ mm)))
      rw [e5]
      refine ret_ rfl (by repeat (first | exact ResAll.nil | (apply ResAll.cons; first | exact .tmp rfl | exact .cell rfl rfl | exact .one rfl))) fun w' h' => ?_
      exact .mk _ trivial rfl h'
theorem ref_formF (w : World) (k : Int) (i d : Value) (l : List Int) (b : List (BitVec 8)) [h1 : RdOld w [] i l] [h2 : RdOld w [] d b] (hf : OkF ⟨k, l, b⟩) :
    Calls Try.prog 24 #[.agg #[I k, i, d]] w (Ret w [] (fun _ : Value => True) (fun r => r) (fun r => [row r 5 (seB ⟨k, l, b⟩)])) := by
  have hl := h1.rd.len_le
  have hb := h2.rd.len_le
  obtain ⟨hk, hl4, hd, hi⟩ := hf
  simp only at hk hl4 hd hi
  have e3 : pkB l = packB l := by rw [pkB, if_pos (by omega)]
  have e4 : pkE l = 0 := by rw [pkE, if_pos (by omega)]
  haveI : Eqn (pkB l) (packB l) := ⟨e3⟩
  haveI : Eqn (pkE l) 0 := ⟨e4⟩
  have hpk := packB_le (l := l) (by omega)
  have hvl := vint_10 (BitVec.ofNat 64 b.length)
  have hpl : (67#8 :: 72#8 :: 77#8 :: BitVec.ofInt 8 k :: packB l).length = (packB l).length + 4 := by simp only [List.length_cons]
  have hph : (67#8 :: 72#8 :: 77#8 :: BitVec.ofInt 8 k :: (packB l ++ (vint (BitVec.ofNat 64 b.length) ++ b))).length ≤ 200000 := by simp only [List.length_cons, List.length_append]; omega
  have e5 : seB ⟨k, l, b⟩ = 67#8 :: 72#8 :: 77#8 :: BitVec.ofInt 8 k :: (packB l ++ (vint (BitVec.ofNat 64 b.length) ++ (b ++ sumB (67#8 :: 72#8 :: 77#8 :: BitVec.ofInt 8 k :: (packB l ++ (vint (BitVec.ofNat 64 b.length) ++ b)))))) := by
    simp only [seB, hdB, ltL, List.append_assoc, List.cons_append, List.nil_append]
  have hsl := sumB_length (67#8 :: 72#8 :: 77#8 :: BitVec.ofInt 8 k :: (packB l ++ (vint (BitVec.ofNat 64 b.length) ++ b)))
  haveI := DrH_24_1
  refine enter (N := 26) (args := [.agg #[I k, i, d]]) Try.func24 rfl rfl rfl (St.refl w) ?_
  repeat' (first
  | refine G_nilC ?_
  | refine G_nilN ?_
  | refine G_nilH ?_
  | (refine G_nil ?_; try clear ri_; try clear ops_)
  | (refine V_op ?_; first | exact True.intro | (intro v_ h_ w_ r_ t_; try (obtain ⟨ta_, tb_⟩ := (t_ : _ ∧ _)); try (obtain ⟨tb_, tc_⟩ := (tb_ : _ ∧ _)); try (obtain ⟨tc_, td_⟩ := (tc_ : _ ∧ _)); try (obtain ⟨td_, te_⟩ := (td_ : _ ∧ _))) | intro (ops_ : Array Oper) ri_ | intro (b_ : Bool) hb_ | (intro v_ h_; try (have o_ := FrzK.one h_)) | intro (v_ : Value) | intro (b_ : Nat) | (refine ⟨fun hc => ?_, fun hc => ?_⟩ <;> try (exfalso; omega)) | refine ⟨?_, ?_⟩ | intro _ | skip)
  | (refine Is_DQ ?_; first | (apply DQ_m rfl rfl rfl rfl; focus (intro wq_ Oq_ rq_ mm; (repeat (first | (refine G_nil ?_; exact X_done rfl (List.Sublist.refl _)) | refine V_op ?_)); done)) | (apply DQ_k rfl rfl rfl rfl; intro wq_ Oq_ rq_ mm) | (apply DQ_y rfl rfl rfl rfl; intro wq_ Oq_ rq_ mm)))
  all_goals
    rw [e5]
    refine ret_ rfl (by repeat (first | exact ResAll.nil | (apply ResAll.cons; first | exact .tmp rfl | exact .cell rfl rfl | exact .one rfl))) fun w' h' => ?_
    exact .mk _ trivial rfl h'
section
variable {w0 : World} {O : List Nat} {m : List As} {i d : Value} {l : List Int} {b bs : List (BitVec 8)} {k : Int} {kb : BitVec 8} {e : Int}
instance [h1 : RdR w0 O m i l] [h2 : RdR w0 O m d b] [he : Eqn (seE ⟨k, l, b⟩) e] [hb : Eqn (seR ⟨k, l, b⟩) bs] : CallR Try.prog w0 O m 23 [.agg #[.int .i64 k, i, d]] (okI l) (fun _ : Value => True) (fun r => .tuple #[r, I e]) (fun r => row r 5 bs :: m) :=
  .new1 (M := fun r => row r _ bs) fun hs w hw => by
    rw [← he.eq, ← hb.eq]
    exact @run_Seal w k i d l b (RdOld.of (h1.rd w hw)) (RdOld.of (h2.rd w hw)) hs
instance [h1 : RdR w0 O m i l] [h2 : RdR w0 O m d b] : CallR Try.prog w0 O m 24 [.agg #[.int .i64 k, i, d]] (OkF ⟨k, l, b⟩) (fun _ : Value => True) (fun r => r) (fun r => row r 5 (seB ⟨k, l, b⟩) :: m) :=
  .new1 (M := fun r => row r _ (seB ⟨k, l, b⟩)) fun hs w hw => @ref_formF w k i d l b (RdOld.of (h1.rd w hw)) (RdOld.of (h2.rd w hw)) hs
instance [h1 : RdOld w0 O i l] [h2 : RdOld w0 O d b] : CallR Try.prog w0 O m 10 [.agg #[.int .u8 (kb.toNat : Int), i, d]] True (ι := OldV w0 O (l.take 40) × OldV w0 O (b.take 200)) (fun _ => True) (fun q => .agg #[I (1 + kb.toNat % 9), q.1.v, q.2.v]) (fun _ => m) :=
  ⟨fun _ w hw => ref_Made w0 O m kb i d l b w hw⟩
end
theorem law_sealed (w : World) (k : Int) (i d : Value) (l : List Int) (b : List (BitVec 8)) [h1 : RdOld w [] i l] [h2 : RdOld w [] d b] (hi : okI l) :
    Calls Try.prog 11 #[.agg #[I k, i, d]] w (Ret w [] (fun _ : Value => True) (fun r => .agg #[r, I (seE ⟨k, l, b⟩)]) (fun r => [row r 5 (seR ⟨k, l, b⟩)])) := by
  refine enter (N := 13) (args := [.agg #[I k, i, d]]) Try.func11 rfl rfl rfl (St.refl w) ?_
  repeat' (first
  | refine G_nilC ?_
  | refine G_nilN ?_
  | refine G_nilH ?_
  | (refine G_nil ?_; try clear ri_; try clear ops_)
  | (refine V_op ?_; first | exact True.intro | (intro v_ h_ w_ r_ t_; try (obtain ⟨ta_, tb_⟩ := (t_ : _ ∧ _)); try (obtain ⟨tb_, tc_⟩ := (tb_ : _ ∧ _)); try (obtain ⟨tc_, td_⟩ := (tc_ : _ ∧ _)); try (obtain ⟨td_, te_⟩ := (td_ : _ ∧ _))) | intro (ops_ : Array Oper) ri_ | intro (b_ : Bool) hb_ | (intro v_ h_; try (have o_ := FrzK.one h_)) | intro (v_ : Value) | intro (b_ : Nat) | (refine ⟨fun hc => ?_, fun hc => ?_⟩ <;> try (exfalso; omega)) | refine ⟨?_, ?_⟩ | intro _ | skip)
  | (refine Is_DQ ?_; first | (apply DQ_m rfl rfl rfl rfl; focus (intro wq_ Oq_ rq_ mm; (repeat (first | (refine G_nil ?_; exact X_done rfl (List.Sublist.refl _)) | refine V_op ?_)); done)) | (apply DQ_k rfl rfl rfl rfl; intro wq_ Oq_ rq_ mm) | (apply DQ_y rfl rfl rfl rfl; intro wq_ Oq_ rq_ mm)))
  refine ret_ rfl (by repeat (first | exact ResAll.nil | (apply ResAll.cons; first | exact .tmp rfl | exact .cell rfl rfl | exact .one rfl))) fun w' h' => ?_
  exact .mk _ trivial rfl h'
theorem ref_SealIn (w : World) (k : Int) (i d : Value) (l : List Int) (b : List (BitVec 8)) [h1 : RdOld w [] i l] [h2 : RdOld w [] d b] (hi : okI l) :
    Calls Try.prog 12 #[.agg #[I k, i, d]] w (Ret w [] (fun _ : Value => True) (fun r => .agg #[r, I (seE ⟨k, l, b⟩)]) (fun r => [row r 5 (seR ⟨k, l, b⟩)])) := by
  have hl := h1.rd.len_le
  have hb := h2.rd.len_le
  by_cases hk : ¬ (1 ≤ k ∧ k ≤ 9) ∨ 40 < l.length
  · have e1 : seE ⟨k, l, b⟩ = 1 := by rw [seE, if_pos hk]
    have e2 : seR ⟨k, l, b⟩ = [] := by rw [seR, e1]; rfl
    rw [e1, e2]
    refine enter (N := 26) (args := [.agg #[I k, i, d]]) Try.func12 rfl rfl rfl (St.refl w) ?_
    repeat' (first
  | refine G_nilC ?_
  | refine G_nilN ?_
  | refine G_nilH ?_
  | (refine G_nil ?_; try clear ri_; try clear ops_)
  | (refine V_op ?_; first | exact True.intro | (intro v_ h_ w_ r_ t_; try (obtain ⟨ta_, tb_⟩ := (t_ : _ ∧ _)); try (obtain ⟨tb_, tc_⟩ := (tb_ : _ ∧ _)); try (obtain ⟨tc_, td_⟩ := (tc_ : _ ∧ _)); try (obtain ⟨td_, te_⟩ := (td_ : _ ∧ _))) | intro (ops_ : Array Oper) ri_ | intro (b_ : Bool) hb_ | (intro v_ h_; try (have o_ := FrzK.one h_)) | intro (v_ : Value) | intro (b_ : Nat) | (refine ⟨fun hc => ?_, fun hc => ?_⟩ <;> try (exfalso; omega)) | refine ⟨?_, ?_⟩ | intro _ | skip)
  | (refine Is_DQ ?_; first | (apply DQ_m rfl rfl rfl rfl; focus (intro wq_ Oq_ rq_ mm; (repeat (first | (refine G_nil ?_; exact X_done rfl (List.Sublist.refl _)) | refine V_op ?_)); done)) | (apply DQ_k rfl rfl rfl rfl; intro wq_ Oq_ rq_ mm) | (apply DQ_y rfl rfl rfl rfl; intro wq_ Oq_ rq_ mm)))
    all_goals
      refine ret_ rfl (by repeat (first | exact ResAll.nil | (apply ResAll.cons; first | exact .tmp rfl | exact .cell rfl rfl | exact .one rfl))) fun w' h' => ?_
      exact .mk (.slice none 0 0) trivial rfl h'
  · by_cases hd : 65536 < b.length
    · have e1 : seE ⟨k, l, b⟩ = 2 := by rw [seE, if_neg hk, if_pos hd]
      have e2 : seR ⟨k, l, b⟩ = [] := by rw [seR, e1]; rfl
      rw [e1, e2]
      refine enter (N := 26) (args := [.agg #[I k, i, d]]) Try.func12 rfl rfl rfl (St.refl w) ?_
      repeat' (first
  | refine G_nilC ?_
  | refine G_nilN ?_
  | refine G_nilH ?_
  | (refine G_nil ?_; try clear ri_; try clear ops_)
  | (refine V_op ?_; first | exact True.intro | (intro v_ h_ w_ r_ t_; try (obtain ⟨ta_, tb_⟩ := (t_ : _ ∧ _)); try (obtain ⟨tb_, tc_⟩ := (tb_ : _ ∧ _)); try (obtain ⟨tc_, td_⟩ := (tc_ : _ ∧ _)); try (obtain ⟨td_, te_⟩ := (td_ : _ ∧ _))) | intro (ops_ : Array Oper) ri_ | intro (b_ : Bool) hb_ | (intro v_ h_; try (have o_ := FrzK.one h_)) | intro (v_ : Value) | intro (b_ : Nat) | (refine ⟨fun hc => ?_, fun hc => ?_⟩ <;> try (exfalso; omega)) | refine ⟨?_, ?_⟩ | intro _ | skip)
  | (refine Is_DQ ?_; first | (apply DQ_m rfl rfl rfl rfl; focus (intro wq_ Oq_ rq_ mm; (repeat (first | (refine G_nil ?_; exact X_done rfl (List.Sublist.refl _)) | refine V_op ?_)); done)) | (apply DQ_k rfl rfl rfl rfl; intro wq_ Oq_ rq_ mm) | (apply DQ_y rfl rfl rfl rfl; intro wq_ Oq_ rq_ mm)))
      refine ret_ rfl (by repeat (first | exact ResAll.nil | (apply ResAll.cons; first | exact .tmp rfl | exact .cell rfl rfl | exact .one rfl))) fun w' h' => ?_
      exact .mk (.slice none 0 0) trivial rfl h'
    · have e1 : seE ⟨k, l, b⟩ = 0 := by rw [seE, if_neg hk, if_neg hd]
      have e2 : seR ⟨k, l, b⟩ = seB ⟨k, l, b⟩ := by rw [seR, if_pos e1]
      have hf : OkF ⟨k, l, b⟩ := ⟨by simp only; omega, by simp only; omega, by simp only; omega, hi⟩
      rw [e1, e2]
      refine enter (N := 26) (args := [.agg #[I k, i, d]]) Try.func12 rfl rfl rfl (St.refl w) ?_
      repeat' (first
  | refine G_nilC ?_
  | refine G_nilN ?_
  | refine G_nilH ?_
  | (refine G_nil ?_; try clear ri_; try clear ops_)
  | (refine V_op ?_; first | exact True.intro | (intro v_ h_ w_ r_ t_; try (obtain ⟨ta_, tb_⟩ := (t_ : _ ∧ _)); try (obtain ⟨tb_, tc_⟩ := (tb_ : _ ∧ _)); try (obtain ⟨tc_, td_⟩ := (tc_ : _ ∧ _)); try (obtain ⟨td_, te_⟩ := (td_ : _ ∧ _))) | intro (ops_ : Array Oper) ri_ | intro (b_ : Bool) hb_ | (intro v_ h_; try (have o_ := FrzK.one h_)) | intro (v_ : Value) | intro (b_ : Nat) | (refine ⟨fun hc => ?_, fun hc => ?_⟩ <;> try (exfalso; omega)) | refine ⟨?_, ?_⟩ | intro _ | skip)
  | (refine Is_DQ ?_; first | (apply DQ_m rfl rfl rfl rfl; focus (intro wq_ Oq_ rq_ mm; (repeat (first | (refine G_nil ?_; exact X_done rfl (List.Sublist.refl _)) | refine V_op ?_)); done)) | (apply DQ_k rfl rfl rfl rfl; intro wq_ Oq_ rq_ mm) | (apply DQ_y rfl rfl rfl rfl; intro wq_ Oq_ rq_ mm)))
      refine ret_ rfl (by repeat (first | exact ResAll.nil | (apply ResAll.cons; first | exact .tmp rfl | exact .cell rfl rfl | exact .one rfl))) fun w' h' => ?_
      exact .mk _ trivial rfl h'
section
variable {w0 : World} {O : List Nat} {m : List As} {i d : Value} {l : List Int} {b bs : List (BitVec 8)} {k : Int} {e : Int}
instance [h1 : RdR w0 O m i l] [h2 : RdR w0 O m d b] [he : Eqn (seE ⟨k, l, b⟩) e] [hb : Eqn (seR ⟨k, l, b⟩) bs] : CallR Try.prog w0 O m 11 [.agg #[.int .i64 k, i, d]] (okI l) (fun _ : Value => True) (fun r => .agg #[r, I e]) (fun r => row r 5 bs :: m) :=
  .new1 (M := fun r => row r _ bs) fun hs w hw => by
    rw [← he.eq, ← hb.eq]
    exact @law_sealed w k i d l b (RdOld.of (h1.rd w hw)) (RdOld.of (h2.rd w hw)) hs
instance [h1 : RdR w0 O m i l] [h2 : RdR w0 O m d b] [he : Eqn (seE ⟨k, l, b⟩) e] [hb : Eqn (seR ⟨k, l, b⟩) bs] : CallR Try.prog w0 O m 12 [.agg #[.int .i64 k, i, d]] (okI l) (fun _ : Value => True) (fun r => .agg #[r, I e]) (fun r => row r 5 bs :: m) :=
  .new1 (M := fun r => row r _ bs) fun hs w hw => by
    rw [← he.eq, ← hb.eq]
    exact @ref_SealIn w k i d l b (RdOld.of (h1.rd w hw)) (RdOld.of (h2.rd w hw)) hs
end
end Go.Proofs.Ytdngfkmigpnbnaa
