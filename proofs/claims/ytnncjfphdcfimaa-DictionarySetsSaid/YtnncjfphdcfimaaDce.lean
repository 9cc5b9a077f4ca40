/- Dictionary: packed forms. -/
import Derived.Test.YtnncjfphdcfimaaDcd
set_option linter.unusedVariables false
set_option linter.unusedSimpArgs false
set_option maxRecDepth 100000
set_option maxHeartbeats 4000000
namespace Go.Proofs.Ytnncjfphdcfimaa
open Go.RowKit
attribute [local irreducible] G GC At wpL DR XPost CPost Cut GA GAR GAX GAt NxA GH GHR NxH
attribute [local irreducible] ofD srtL cmpL

/-- the packed forms of strings behind one -/
def pkG (bf : List (BitVec 8)) : List ByteArray → List (BitVec 8)
  | [] => []
  | s :: t => vint (BitVec.ofNat 64 (shB bf (bL s))) ++ (vint (BitVec.ofNat 64 ((bL s).length - shB bf (bL s))) ++ ((bL s).drop (shB bf (bL s)) ++ pkG (bL s) t))
def pkD (d : List ByteArray) : List (BitVec 8) := vint (BitVec.ofNat 64 d.length) ++ pkG [] d
open Classical in
noncomputable def paE (d : List ByteArray) : Int := if VaD d then 0 else 1
noncomputable def paR (d : List ByteArray) : List (BitVec 8) := if paE d = 0 then pkD d else []
theorem pa_no {d : List ByteArray} (h : ¬ VaD d) : paE d = 1 ∧ paR d = [] := by
  have e : paE d = 1 := by rw [paE, if_neg h]
  exact ⟨e, by rw [paR, e, if_neg (by decide)]⟩
theorem pa_ok {d : List ByteArray} (h : VaD d) : paE d = 0 ∧ paR d = pkD d := by
  have e : paE d = 0 := by rw [paE, if_pos h]
  exact ⟨e, by rw [paR, e, if_pos rfl]⟩
/-- what is ahead of the k-th -/
def bfD (d : List ByteArray) : Nat → ByteArray
  | 0 => ⟨#[]⟩
  | k + 1 => d.getD k ⟨#[]⟩
theorem bfD_len {d : List ByteArray} (h : VaD d) (k : Nat) (hk : k ≤ d.length) : (bL (bfD d k)).length ≤ 255 := by
  cases k with
  | zero => exact Nat.zero_le _
  | succ k => rw [bfD, getD_at (by omega)]; exact va_len h _ (List.getElem_mem _)
theorem run_Pack (w : World) (v : Value) (d : List ByteArray) [h : RdOld w [] v d] (e : Int) (R : List (BitVec 8)) (h0 : paE d = e ∧ paR d = R) :
    Calls Try.prog 31 #[v] w (Ret w [] (fun _ : Value => True) (fun r => .tuple #[r, I e]) (fun r => [row r 5 R])) := by
  have hd := h.rd.len_le
  by_cases hv : VaD d
  · haveI : Yes (VaD d) := ⟨hv⟩
    have hd2 := hv.2
    obtain ⟨rfl, rfl⟩ : 0 = e ∧ pkD d = R := by rw [← h0.1, ← h0.2]; exact ⟨(pa_ok hv).1.symm, (pa_ok hv).2.symm⟩
    refine enter (N := 43) (args := [v]) Try.func31 rfl rfl rfl (St.refl w) ?_
    repeat' (first
  | refine G_nilC ?_
  | refine G_nilN ?_
  | refine G_nilH ?_
  | (refine G_nil ?_; try clear ri_; try clear ops_)
  | (refine V_op ?_; first | exact True.intro | (intro v_ h_ w_ r_ t_; try (obtain ⟨ta_, tb_⟩ := (t_ : _ ∧ _)); try (obtain ⟨tb_, tc_⟩ := (tb_ : _ ∧ _)); try (obtain ⟨tc_, td_⟩ := (tc_ : _ ∧ _)); try (obtain ⟨td_, te_⟩ := (td_ : _ ∧ _))) | intro (ops_ : Array Oper) ri_ | intro (b_ : Bool) hb_ | (intro v_ h_; try (have o_ := FrzK.one h_)) | intro (v_ : Value) | intro (b_ : Nat) | (refine ⟨fun hc => ?_, fun hc => ?_⟩ <;> try (exfalso; omega)) | refine ⟨?_, ?_⟩ | intro _ | skip)
  | (refine Is_DQ ?_; first | (apply DQ_m rfl rfl rfl rfl; focus (intro wq_ Oq_ rq_ mm; (repeat (first | (refine G_nil ?_; exact X_done rfl (List.Sublist.refl _)) | refine V_op ?_)); done)) | (apply DQ_k rfl rfl rfl rfl; intro wq_ Oq_ rq_ mm) | (apply DQ_y rfl rfl rfl rfl; intro wq_ Oq_ rq_ mm)))
    refine GC_loopS (X := Nat × Value × ByteArray × List (BitVec 8)) (fun y => y.1 ≤ d.length ∧ y.2.2.2.length ≤ 10 + y.1 * 300 ∧ (bL y.2.2.1).length ≤ 255 ∧ y.2.2.2 ++ pkG (bL y.2.2.1) (d.drop y.1) = pkD d) (fun y s => (18, I y.1) :: (5, .string y.2.2.1) :: (4, y.2.1) :: s) (fun y q => row y.2.1 5 y.2.2.2 :: q) (fun y => d.length - y.1) (0, v_, ⟨#[]⟩, vint (BitVec.ofNat 64 d.length)) ⟨Nat.zero_le _, vint_10 _, Nat.zero_le _, by simp only [List.drop_zero]; rfl⟩ (by repeat (first | exact trivial | refine And.intro rfl ?_)) ?_ (want := [row v_ 5 (vint (BitVec.ofNat 64 d.length))]) (hm0 := rfl)
    rintro ⟨k, bv, bf, acc⟩ ⟨hk, hal, hbf, hac⟩
    simp only at hk hal hbf hac ⊢
    by_cases hkl : k < d.length
    · have hsl := va_len hv _ (List.getElem_mem hkl)
      have hsh := shB_le (bL bf) (bL (d[k]'hkl))
      have hv1 := vint_10 (BitVec.ofNat 64 (shB (bL bf) (bL (d[k]'hkl))))
      have hofi : BitVec.ofInt 64 (((bL (d[k]'hkl)).length : Int) - (shB (bL bf) (bL (d[k]'hkl)) : Nat)) = BitVec.ofNat 64 ((bL (d[k]'hkl)).length - shB (bL bf) (bL (d[k]'hkl))) := by
        rw [← BitVec.ofInt_natCast, Int.ofNat_sub hsh.2]
      have hv2 := vint_10 (BitVec.ofInt 64 (((bL (d[k]'hkl)).length : Int) - (shB (bL bf) (bL (d[k]'hkl)) : Nat)))
      have hq1 : (acc ++ vint (BitVec.ofNat 64 (shB (bL bf) (bL (d[k]'hkl))))).length ≤ 2000000 := by rw [List.length_append]; omega
      rw [List.drop_eq_getElem_cons hkl, pkG, ← hofi] at hac
      repeat' (first
  | refine G_nilC ?_
  | refine G_nilN ?_
  | refine G_nilH ?_
  | (refine G_nil ?_; try clear ri_; try clear ops_)
  | (refine V_op ?_; first | exact True.intro | (intro v_ h_ w_ r_ t_; try (obtain ⟨ta_, tb_⟩ := (t_ : _ ∧ _)); try (obtain ⟨tb_, tc_⟩ := (tb_ : _ ∧ _)); try (obtain ⟨tc_, td_⟩ := (tc_ : _ ∧ _)); try (obtain ⟨td_, te_⟩ := (td_ : _ ∧ _))) | intro (ops_ : Array Oper) ri_ | intro (b_ : Bool) hb_ | (intro v_ h_; try (have o_ := FrzK.one h_)) | intro (v_ : Value) | intro (b_ : Nat) | (refine ⟨fun hc => ?_, fun hc => ?_⟩ <;> try (exfalso; omega)) | refine ⟨?_, ?_⟩ | intro _ | skip)
  | (refine Is_DQ ?_; first | (apply DQ_m rfl rfl rfl rfl; focus (intro wq_ Oq_ rq_ mm; (repeat (first | (refine G_nil ?_; exact X_done rfl (List.Sublist.refl _)) | refine V_op ?_)); done)) | (apply DQ_k rfl rfl rfl rfl; intro wq_ Oq_ rq_ mm) | (apply DQ_y rfl rfl rfl rfl; intro wq_ Oq_ rq_ mm)))
      have hnew : (acc ++ (vint (BitVec.ofNat 64 (shB (bL bf) (bL (d[k]'hkl)))) ++ (vint (BitVec.ofInt 64 (((bL (d[k]'hkl)).length : Int) - (shB (bL bf) (bL (d[k]'hkl)) : Nat))) ++ (bL (d[k]'hkl)).drop (shB (bL bf) (bL (d[k]'hkl)))))).length ≤ 10 + (k + 1) * 300 := by
        simp only [List.length_append, List.length_drop]; omega
      exact At_roundS (k + 1, v_, d[k]'hkl, acc ++ (vint (BitVec.ofNat 64 (shB (bL bf) (bL (d[k]'hkl)))) ++ (vint (BitVec.ofInt 64 (((bL (d[k]'hkl)).length : Int) - (shB (bL bf) (bL (d[k]'hkl)) : Nat))) ++ (bL (d[k]'hkl)).drop (shB (bL bf) (bL (d[k]'hkl)))))) ⟨by simp only; omega, hnew, hsl, by rw [← hac]; simp only [List.append_assoc]⟩ (by simp only; omega) (by repeat (first | exact trivial | refine And.intro rfl ?_)) (by repeat (first | exact trivial | refine And.intro rfl ?_))
    · obtain rfl : k = d.length := by omega
      rw [List.drop_length, pkG, List.append_nil] at hac
      subst hac
      repeat' (first
  | refine G_nilC ?_
  | refine G_nilN ?_
  | refine G_nilH ?_
  | (refine G_nil ?_; try clear ri_; try clear ops_)
  | (refine V_op ?_; first | exact True.intro | (intro v_ h_ w_ r_ t_; try (obtain ⟨ta_, tb_⟩ := (t_ : _ ∧ _)); try (obtain ⟨tb_, tc_⟩ := (tb_ : _ ∧ _)); try (obtain ⟨tc_, td_⟩ := (tc_ : _ ∧ _)); try (obtain ⟨td_, te_⟩ := (td_ : _ ∧ _))) | intro (ops_ : Array Oper) ri_ | intro (b_ : Bool) hb_ | (intro v_ h_; try (have o_ := FrzK.one h_)) | intro (v_ : Value) | intro (b_ : Nat) | (refine ⟨fun hc => ?_, fun hc => ?_⟩ <;> try (exfalso; omega)) | refine ⟨?_, ?_⟩ | intro _ | skip)
  | (refine Is_DQ ?_; first | (apply DQ_m rfl rfl rfl rfl; focus (intro wq_ Oq_ rq_ mm; (repeat (first | (refine G_nil ?_; exact X_done rfl (List.Sublist.refl _)) | refine V_op ?_)); done)) | (apply DQ_k rfl rfl rfl rfl; intro wq_ Oq_ rq_ mm) | (apply DQ_y rfl rfl rfl rfl; intro wq_ Oq_ rq_ mm)))
      refine ret_ rfl (by repeat (first | exact ResAll.nil | (apply ResAll.cons; first | exact .tmp rfl | exact .cell rfl rfl | exact .one rfl))) fun w' h' => ?_
      exact .mk bv trivial rfl h'
  · haveI : No (VaD d) := ⟨hv⟩
    obtain ⟨rfl, rfl⟩ : 1 = e ∧ [] = R := by rw [← h0.1, ← h0.2]; exact ⟨(pa_no hv).1.symm, (pa_no hv).2.symm⟩
    refine enter (N := 43) (args := [v]) Try.func31 rfl rfl rfl (St.refl w) ?_
    repeat' (first
  | refine G_nilC ?_
  | refine G_nilN ?_
  | refine G_nilH ?_
  | (refine G_nil ?_; try clear ri_; try clear ops_)
  | (refine V_op ?_; first | exact True.intro | (intro v_ h_ w_ r_ t_; try (obtain ⟨ta_, tb_⟩ := (t_ : _ ∧ _)); try (obtain ⟨tb_, tc_⟩ := (tb_ : _ ∧ _)); try (obtain ⟨tc_, td_⟩ := (tc_ : _ ∧ _)); try (obtain ⟨td_, te_⟩ := (td_ : _ ∧ _))) | intro (ops_ : Array Oper) ri_ | intro (b_ : Bool) hb_ | (intro v_ h_; try (have o_ := FrzK.one h_)) | intro (v_ : Value) | intro (b_ : Nat) | (refine ⟨fun hc => ?_, fun hc => ?_⟩ <;> try (exfalso; omega)) | refine ⟨?_, ?_⟩ | intro _ | skip)
  | (refine Is_DQ ?_; first | (apply DQ_m rfl rfl rfl rfl; focus (intro wq_ Oq_ rq_ mm; (repeat (first | (refine G_nil ?_; exact X_done rfl (List.Sublist.refl _)) | refine V_op ?_)); done)) | (apply DQ_k rfl rfl rfl rfl; intro wq_ Oq_ rq_ mm) | (apply DQ_y rfl rfl rfl rfl; intro wq_ Oq_ rq_ mm)))
    refine ret_ rfl (by repeat (first | exact ResAll.nil | (apply ResAll.cons; first | exact .tmp rfl | exact .cell rfl rfl | exact .one rfl))) fun w' h' => ?_
    exact .mk (.slice none 0 0) trivial rfl h'
theorem ref_PackIn (w : World) (v : Value) (d : List ByteArray) [h : RdOld w [] v d] (e : Int) (R : List (BitVec 8)) (h0 : paE d = e ∧ paR d = R) :
    Calls Try.prog 18 #[v] w (Ret w [] (fun _ : Value => True) (fun r => .agg #[r, I e]) (fun r => [row r 5 R])) := by
  have hd := h.rd.len_le
  by_cases hv : VaD d
  · haveI : Yes (VaD d) := ⟨hv⟩
    have hd2 := hv.2
    obtain ⟨rfl, rfl⟩ : 0 = e ∧ pkD d = R := by rw [← h0.1, ← h0.2]; exact ⟨(pa_ok hv).1.symm, (pa_ok hv).2.symm⟩
    refine enter (N := 55) (args := [v]) Try.func18 rfl rfl rfl (St.refl w) ?_
    repeat' (first
  | refine G_nilC ?_
  | refine G_nilN ?_
  | refine G_nilH ?_
  | (refine G_nil ?_; try clear ri_; try clear ops_)
  | (refine V_op ?_; first | exact True.intro | (intro v_ h_ w_ r_ t_; try (obtain ⟨ta_, tb_⟩ := (t_ : _ ∧ _)); try (obtain ⟨tb_, tc_⟩ := (tb_ : _ ∧ _)); try (obtain ⟨tc_, td_⟩ := (tc_ : _ ∧ _)); try (obtain ⟨td_, te_⟩ := (td_ : _ ∧ _))) | intro (ops_ : Array Oper) ri_ | intro (b_ : Bool) hb_ | (intro v_ h_; try (have o_ := FrzK.one h_)) | intro (v_ : Value) | intro (b_ : Nat) | (refine ⟨fun hc => ?_, fun hc => ?_⟩ <;> try (exfalso; omega)) | refine ⟨?_, ?_⟩ | intro _ | skip)
  | (refine Is_DQ ?_; first | (apply DQ_m rfl rfl rfl rfl; focus (intro wq_ Oq_ rq_ mm; (repeat (first | (refine G_nil ?_; exact X_done rfl (List.Sublist.refl _)) | refine V_op ?_)); done)) | (apply DQ_k rfl rfl rfl rfl; intro wq_ Oq_ rq_ mm) | (apply DQ_y rfl rfl rfl rfl; intro wq_ Oq_ rq_ mm)))
    refine GC_loopS (X := Nat × Value × ByteArray × List (BitVec 8)) (fun y => y.1 ≤ d.length ∧ y.2.2.2.length ≤ 10 + y.1 * 300 ∧ (bL y.2.2.1).length ≤ 255 ∧ y.2.2.2 ++ pkG (bL y.2.2.1) (d.drop y.1) = pkD d) (fun y s => (5, I y.1) :: (4, .string y.2.2.1) :: (3, y.2.1) :: s) (fun y q => row y.2.1 5 y.2.2.2 :: q) (fun y => d.length - y.1) (0, v_, ⟨#[]⟩, vint (BitVec.ofNat 64 d.length)) ⟨Nat.zero_le _, vint_10 _, Nat.zero_le _, by simp only [List.drop_zero]; rfl⟩ (by repeat (first | exact trivial | refine And.intro rfl ?_)) ?_ (want := [row v_ 5 (vint (BitVec.ofNat 64 d.length))]) (hm0 := rfl)
    rintro ⟨k, bv, bf, acc⟩ ⟨hk, hal, hbf, hac⟩
    simp only at hk hal hbf hac ⊢
    by_cases hkl : k < d.length
    · have hsl := va_len hv _ (List.getElem_mem hkl)
      have hsh := shB_le (bL bf) (bL (d[k]'hkl))
      have hv1 := vint_10 (BitVec.ofNat 64 (shB (bL bf) (bL (d[k]'hkl))))
      have hofi : BitVec.ofInt 64 (((bL (d[k]'hkl)).length : Int) - (shB (bL bf) (bL (d[k]'hkl)) : Nat)) = BitVec.ofNat 64 ((bL (d[k]'hkl)).length - shB (bL bf) (bL (d[k]'hkl))) := by
        rw [← BitVec.ofInt_natCast, Int.ofNat_sub hsh.2]
      have hv2 := vint_10 (BitVec.ofInt 64 (((bL (d[k]'hkl)).length : Int) - (shB (bL bf) (bL (d[k]'hkl)) : Nat)))
      have hq1 : (acc ++ vint (BitVec.ofNat 64 (shB (bL bf) (bL (d[k]'hkl))))).length ≤ 2000000 := by rw [List.length_append]; omega
      rw [List.drop_eq_getElem_cons hkl, pkG, ← hofi] at hac
      repeat' (first
  | refine G_nilC ?_
  | refine G_nilN ?_
  | refine G_nilH ?_
  | (refine G_nil ?_; try clear ri_; try clear ops_)
  | (refine V_op ?_; first | exact True.intro | (intro v_ h_ w_ r_ t_; try (obtain ⟨ta_, tb_⟩ := (t_ : _ ∧ _)); try (obtain ⟨tb_, tc_⟩ := (tb_ : _ ∧ _)); try (obtain ⟨tc_, td_⟩ := (tc_ : _ ∧ _)); try (obtain ⟨td_, te_⟩ := (td_ : _ ∧ _))) | intro (ops_ : Array Oper) ri_ | intro (b_ : Bool) hb_ | (intro v_ h_; try (have o_ := FrzK.one h_)) | intro (v_ : Value) | intro (b_ : Nat) | (refine ⟨fun hc => ?_, fun hc => ?_⟩ <;> try (exfalso; omega)) | refine ⟨?_, ?_⟩ | intro _ | skip)
  | (refine Is_DQ ?_; first | (apply DQ_m rfl rfl rfl rfl; focus (intro wq_ Oq_ rq_ mm; (repeat (first | (refine G_nil ?_; exact X_done rfl (List.Sublist.refl _)) | refine V_op ?_)); done)) | (apply DQ_k rfl rfl rfl rfl; intro wq_ Oq_ rq_ mm) | (apply DQ_y rfl rfl rfl rfl; intro wq_ Oq_ rq_ mm)))
      have hnew : (acc ++ (vint (BitVec.ofNat 64 (shB (bL bf) (bL (d[k]'hkl)))) ++ (vint (BitVec.ofInt 64 (((bL (d[k]'hkl)).length : Int) - (shB (bL bf) (bL (d[k]'hkl)) : Nat))) ++ (bL (d[k]'hkl)).drop (shB (bL bf) (bL (d[k]'hkl)))))).length ≤ 10 + (k + 1) * 300 := by
        simp only [List.length_append, List.length_drop]; omega
      exact At_roundS (k + 1, v_, d[k]'hkl, acc ++ (vint (BitVec.ofNat 64 (shB (bL bf) (bL (d[k]'hkl)))) ++ (vint (BitVec.ofInt 64 (((bL (d[k]'hkl)).length : Int) - (shB (bL bf) (bL (d[k]'hkl)) : Nat))) ++ (bL (d[k]'hkl)).drop (shB (bL bf) (bL (d[k]'hkl)))))) ⟨by simp only; omega, hnew, hsl, by rw [← hac]; simp only [List.append_assoc]⟩ (by simp only; omega) (by repeat (first | exact trivial | refine And.intro rfl ?_)) (by repeat (first | exact trivial | refine And.intro rfl ?_))
    · obtain rfl : k = d.length := by omega
      rw [List.drop_length, pkG, List.append_nil] at hac
      subst hac
      repeat' (first
  | refine G_nilC ?_
  | refine G_nilN ?_
  | refine G_nilH ?_
  | (refine G_nil ?_; try clear ri_; try clear ops_)
  | (refine V_op ?_; first | exact True.intro | (intro v_ h_ w_ r_ t_; try (obtain ⟨ta_, tb_⟩ := (t_ : _ ∧ _)); try (obtain ⟨tb_, tc_⟩ := (tb_ : _ ∧ _)); try (obtain ⟨tc_, td_⟩ := (tc_ : _ ∧ _)); try (obtain ⟨td_, te_⟩ := (td_ : _ ∧ _))) | intro (ops_ : Array Oper) ri_ | intro (b_ : Bool) hb_ | (intro v_ h_; try (have o_ := FrzK.one h_)) | intro (v_ : Value) | intro (b_ : Nat) | (refine ⟨fun hc => ?_, fun hc => ?_⟩ <;> try (exfalso; omega)) | refine ⟨?_, ?_⟩ | intro _ | skip)
  | (refine Is_DQ ?_; first | (apply DQ_m rfl rfl rfl rfl; focus (intro wq_ Oq_ rq_ mm; (repeat (first | (refine G_nil ?_; exact X_done rfl (List.Sublist.refl _)) | refine V_op ?_)); done)) | (apply DQ_k rfl rfl rfl rfl; intro wq_ Oq_ rq_ mm) | (apply DQ_y rfl rfl rfl rfl; intro wq_ Oq_ rq_ mm)))
      refine ret_ rfl (by repeat (first | exact ResAll.nil | (apply ResAll.cons; first | exact .tmp rfl | exact .cell rfl rfl | exact .one rfl))) fun w' h' => ?_
      exact .mk bv trivial rfl h'
  · haveI : No (VaD d) := ⟨hv⟩
    obtain ⟨rfl, rfl⟩ : 1 = e ∧ [] = R := by rw [← h0.1, ← h0.2]; exact ⟨(pa_no hv).1.symm, (pa_no hv).2.symm⟩
    refine enter (N := 55) (args := [v]) Try.func18 rfl rfl rfl (St.refl w) ?_
    repeat' (first
  | refine G_nilC ?_
  | refine G_nilN ?_
  | refine G_nilH ?_
  | (refine G_nil ?_; try clear ri_; try clear ops_)
  | (refine V_op ?_; first | exact True.intro | (intro v_ h_ w_ r_ t_; try (obtain ⟨ta_, tb_⟩ := (t_ : _ ∧ _)); try (obtain ⟨tb_, tc_⟩ := (tb_ : _ ∧ _)); try (obtain ⟨tc_, td_⟩ := (tc_ : _ ∧ _)); try (obtain ⟨td_, te_⟩ := (td_ : _ ∧ _))) | intro (ops_ : Array Oper) ri_ | intro (b_ : Bool) hb_ | (intro v_ h_; try (have o_ := FrzK.one h_)) | intro (v_ : Value) | intro (b_ : Nat) | (refine ⟨fun hc => ?_, fun hc => ?_⟩ <;> try (exfalso; omega)) | refine ⟨?_, ?_⟩ | intro _ | skip)
  | (refine Is_DQ ?_; first | (apply DQ_m rfl rfl rfl rfl; focus (intro wq_ Oq_ rq_ mm; (repeat (first | (refine G_nil ?_; exact X_done rfl (List.Sublist.refl _)) | refine V_op ?_)); done)) | (apply DQ_k rfl rfl rfl rfl; intro wq_ Oq_ rq_ mm) | (apply DQ_y rfl rfl rfl rfl; intro wq_ Oq_ rq_ mm)))
    refine ret_ rfl (by repeat (first | exact ResAll.nil | (apply ResAll.cons; first | exact .tmp rfl | exact .cell rfl rfl | exact .one rfl))) fun w' h' => ?_
    exact .mk (.slice none 0 0) trivial rfl h'
section
variable {w0 : World} {O : List Nat} {m : List As} {v : Value} {d : List ByteArray} {e : Int} {R : List (BitVec 8)}
instance [h1 : RdR w0 O m v d] [he : Eqn (paE d) e] [hb : Eqn (paR d) R] : CallR Try.prog w0 O m 31 [v] True (fun _ : Value => True) (fun r => .tuple #[r, I e]) (fun r => row r 5 R :: m) :=
  .new1 (M := fun r => row r _ R) fun hs w hw => @run_Pack w v d (RdOld.of (h1.rd w hw)) e R ⟨he.eq, hb.eq⟩
instance [h1 : RdR w0 O m v d] [he : Eqn (paE d) e] [hb : Eqn (paR d) R] : CallR Try.prog w0 O m 18 [v] True (fun _ : Value => True) (fun r => .agg #[r, I e]) (fun r => row r 5 R :: m) :=
  .new1 (M := fun r => row r _ R) fun hs w hw => @ref_PackIn w v d (RdOld.of (h1.rd w hw)) e R ⟨he.eq, hb.eq⟩
end
theorem law_packed (w : World) (v : Value) (d : List ByteArray) [h : RdOld w [] v d] (e : Int) (R : List (BitVec 8)) (h0 : paE d = e ∧ paR d = R) :
    Calls Try.prog 17 #[v] w (Ret w [] (fun _ : Value => True) (fun r => .agg #[r, I e]) (fun r => [row r 5 R])) := by
  haveI : Eqn (paE d) e := ⟨h0.1⟩
  haveI : Eqn (paR d) R := ⟨h0.2⟩
  refine enter (N := 13) (args := [v]) Try.func17 rfl rfl rfl (St.refl w) ?_
  repeat' (first
  | refine G_nilC ?_
  | refine G_nilN ?_
  | refine G_nilH ?_
  | (refine G_nil ?_; try clear ri_; try clear ops_)
  | (refine V_op ?_; first | exact True.intro | (intro v_ h_ w_ r_ t_; try (obtain ⟨ta_, tb_⟩ := (t_ : _ ∧ _)); try (obtain ⟨tb_, tc_⟩ := (tb_ : _ ∧ _)); try (obtain ⟨tc_, td_⟩ := (tc_ : _ ∧ _)); try (obtain ⟨td_, te_⟩ := (td_ : _ ∧ _))) | intro (ops_ : Array Oper) ri_ | intro (b_ : Bool) hb_ | (intro v_ h_; try (have o_ := FrzK.one h_)) | intro (v_ : Value) | intro (b_ : Nat) | (refine ⟨fun hc => ?_, fun hc => ?_⟩ <;> try (exfalso; omega)) | refine ⟨?_, ?_⟩ | intro _ | skip)
  | (refine Is_DQ ?_; first | (apply DQ_m rfl rfl rfl rfl; focus (intro wq_ Oq_ rq_ mm; (repeat (first | (refine G_nil ?_; exact X_done rfl (List.Sublist.refl _)) | refine V_op ?_)); done)) | (apply DQ_k rfl rfl rfl rfl; intro wq_ Oq_ rq_ mm) | (apply DQ_y rfl rfl rfl rfl; intro wq_ Oq_ rq_ mm)))
  refine ret_ rfl (by repeat (first | exact ResAll.nil | (apply ResAll.cons; first | exact .tmp rfl | exact .cell rfl rfl | exact .one rfl))) fun w' h' => ?_
  exact .mk _ trivial rfl h'
section
variable {w0 : World} {O : List Nat} {m : List As} {v : Value} {d : List ByteArray} {e : Int} {R : List (BitVec 8)}
instance [h1 : RdR w0 O m v d] [he : Eqn (paE d) e] [hb : Eqn (paR d) R] : CallR Try.prog w0 O m 17 [v] True (fun _ : Value => True) (fun r => .agg #[r, I e]) (fun r => row r 5 R :: m) :=
  .new1 (M := fun r => row r _ R) fun hs w hw => @law_packed w v d (RdOld.of (h1.rd w hw)) e R ⟨he.eq, hb.eq⟩
end
end Go.Proofs.Ytnncjfphdcfimaa
