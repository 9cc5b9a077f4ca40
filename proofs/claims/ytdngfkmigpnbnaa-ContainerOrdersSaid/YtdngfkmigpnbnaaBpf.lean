/- Bitpack: the packed form, in the program. -/
import Derived.Test.YtdngfkmigpnbnaaBpe
set_option linter.unusedVariables false
set_option linter.unusedSimpArgs false
set_option maxRecDepth 100000
set_option maxHeartbeats 4000000
namespace Go.Proofs.Ytdngfkmigpnbnaa
open Go.RowKit
attribute [local irreducible] G GC At wpL DR XPost CPost Cut GA GAR GAX GAt NxA GH GHR NxH

/-- what the iterator over the differences captures -/
def dfM (v : Value) (base W : Int) (b : Nat × Nat × Nat) (q : List As) : List As := .box b.1 (.cells #[v] 22) :: .box b.2.1 (.cells #[I base] 3) :: .box b.2.2 (.cells #[I W] 3) :: q
def dfV (b : Nat × Nat × Nat) : Value := .func (.func 72) #[] #[.pointer (some ⟨b.1, 0, none⟩), .pointer (some ⟨b.2.1, 0, none⟩), .pointer (some ⟨b.2.2, 0, none⟩)]
theorem bp_differences (w : World) (v : Value) (l : List Int) (base W : Int) [h : RdOld w [] v l] : Calls Try.prog 57 #[v, I base, I W] w (Ret w [] (fun _ : Nat × Nat × Nat => True) dfV (fun b => dfM v base W b [])) := by
  refine enter (N := 8) (args := [v, I base, I W]) Try.func57 rfl rfl rfl (St.refl w) ?_
  repeat' (first
  | refine G_nilC ?_
  | refine G_nilN ?_
  | refine G_nilH ?_
  | (refine G_nil ?_; try clear ri_; try clear ops_)
  | (refine V_op ?_; first | exact True.intro | (intro v_ h_ w_ r_ t_; try (obtain ⟨ta_, tb_⟩ := (t_ : _ ∧ _)); try (obtain ⟨tb_, tc_⟩ := (tb_ : _ ∧ _)); try (obtain ⟨tc_, td_⟩ := (tc_ : _ ∧ _)); try (obtain ⟨td_, te_⟩ := (td_ : _ ∧ _))) | intro (ops_ : Array Oper) ri_ | intro (b_ : Bool) hb_ | (intro v_ h_; try (have o_ := FrzK.one h_)) | intro (v_ : Value) | intro (b_ : Nat) | (refine ⟨fun hc => ?_, fun hc => ?_⟩ <;> try (exfalso; omega)) | refine ⟨?_, ?_⟩ | intro _ | skip)
  | (refine Is_DQ ?_; first | (apply DQ_m rfl rfl rfl rfl; focus (intro wq_ Oq_ rq_ mm; (repeat (first | (refine G_nil ?_; exact X_done rfl (List.Sublist.refl _)) | refine V_op ?_)); done)) | (apply DQ_k rfl rfl rfl rfl; intro wq_ Oq_ rq_ mm) | (apply DQ_y rfl rfl rfl rfl; intro wq_ Oq_ rq_ mm)))
  rename_i b3 b4
  refine ret_ rfl (by repeat (first | exact ResAll.nil | (apply ResAll.cons; first | exact .tmp rfl | exact .cell rfl rfl | exact .one rfl))) fun w' h' => ?_
  exact .mk (b3, b4, b_) trivial rfl h' (hm := by unfold dfM; exact inferInstance)

/-- the iterator: its yields tell the digits of the differences, one after the other -/
theorem it_differences (w0 : World) (O : List Nat) (v : Value) (l : List Int) (base : Int) (W : Nat) (b : Nat × Nat × Nat) (yl : Nat) (J : Nat → List As) [h : RdOld w0 O v l] (hl : l.length * W ≤ 6400000) (hW : W ≤ 64)
    (hy : ∀ k, k < l.length * W → YdB Try.prog yl [I k, .bool (bf W (l.map (dif base)) k)] w0 O (dfM v base W b (J k)) true (dfM v base W b (J (k + 1)))) (w : World) (hst : St w0 O (dfM v base W b (J 0)) w) :
    Calls Try.prog 72 #[yv yl, .pointer (some ⟨b.1, 0, none⟩), .pointer (some ⟨b.2.1, 0, none⟩), .pointer (some ⟨b.2.2, 0, none⟩)] w (fun e w' => (∃ v, e = .returned v) ∧ St w0 O (dfM v base W b (J (l.length * W))) w') := by
  obtain ⟨b1, b2, b3⟩ := b
  unfold dfM at *
  simp only at *
  refine enterF (N := 36) (args := [yv yl, .pointer (some ⟨b1, 0, none⟩), .pointer (some ⟨b2, 0, none⟩), .pointer (some ⟨b3, 0, none⟩)]) Try.func72 rfl rfl rfl hst ?_
  repeat' (first
  | refine G_nilC ?_
  | refine G_nilN ?_
  | refine G_nilH ?_
  | (refine G_nil ?_; try clear ri_; try clear ops_)
  | (refine V_op ?_; first | exact True.intro | (intro v_ h_ w_ r_ t_; try (obtain ⟨ta_, tb_⟩ := (t_ : _ ∧ _)); try (obtain ⟨tb_, tc_⟩ := (tb_ : _ ∧ _)); try (obtain ⟨tc_, td_⟩ := (tc_ : _ ∧ _)); try (obtain ⟨td_, te_⟩ := (td_ : _ ∧ _))) | intro (ops_ : Array Oper) ri_ | intro (b_ : Bool) hb_ | (intro v_ h_; try (have o_ := FrzK.one h_)) | intro (v_ : Value) | intro (b_ : Nat) | (refine ⟨fun hc => ?_, fun hc => ?_⟩ <;> try (exfalso; omega)) | refine ⟨?_, ?_⟩ | intro _ | skip)
  | (refine Is_DQ ?_; first | (apply DQ_m rfl rfl rfl rfl; focus (intro wq_ Oq_ rq_ mm; (repeat (first | (refine G_nil ?_; exact X_done rfl (List.Sublist.refl _)) | refine V_op ?_)); done)) | (apply DQ_k rfl rfl rfl rfl; intro wq_ Oq_ rq_ mm) | (apply DQ_y rfl rfl rfl rfl; intro wq_ Oq_ rq_ mm)))
  refine GC_loopM (X := Nat) (fun i => i ≤ l.length) (fun i s => (5, I ((i * W : Nat) : Int)) :: (11, I i) :: s) (fun i => .box b1 (.cells #[v] 22) :: .box b2 (.cells #[I base] 3) :: .box b3 (.cells #[I W] 3) :: J (i * W)) (fun i => l.length - i) 0 (Nat.zero_le _)
    (by rw [Nat.zero_mul]; exact ⟨rfl, rfl, trivial⟩) ?_ (hm0 := by rw [Nat.zero_mul])
  have hlen := h.rd.len_le
  intro i hi
  repeat' (first
  | refine G_nilC ?_
  | refine G_nilN ?_
  | refine G_nilH ?_
  | (refine G_nil ?_; try clear ri_; try clear ops_)
  | (refine V_op ?_; first | exact True.intro | (intro v_ h_ w_ r_ t_; try (obtain ⟨ta_, tb_⟩ := (t_ : _ ∧ _)); try (obtain ⟨tb_, tc_⟩ := (tb_ : _ ∧ _)); try (obtain ⟨tc_, td_⟩ := (tc_ : _ ∧ _)); try (obtain ⟨td_, te_⟩ := (td_ : _ ∧ _))) | intro (ops_ : Array Oper) ri_ | intro (b_ : Bool) hb_ | (intro v_ h_; try (have o_ := FrzK.one h_)) | intro (v_ : Value) | intro (b_ : Nat) | (refine ⟨fun hc => ?_, fun hc => ?_⟩ <;> try (exfalso; omega)) | refine ⟨?_, ?_⟩ | intro _ | skip)
  | (refine Is_DQ ?_; first | (apply DQ_m rfl rfl rfl rfl; focus (intro wq_ Oq_ rq_ mm; (repeat (first | (refine G_nil ?_; exact X_done rfl (List.Sublist.refl _)) | refine V_op ?_)); done)) | (apply DQ_k rfl rfl rfl rfl; intro wq_ Oq_ rq_ mm) | (apply DQ_y rfl rfl rfl rfl; intro wq_ Oq_ rq_ mm)))
  · have hil : i < l.length := by omega
    have h1 : (i + 1) * W ≤ l.length * W := Nat.mul_le_mul_right _ hil
    rw [Nat.add_mul, Nat.one_mul] at h1
    refine GC_loopM (X := Nat) (fun k => k ≤ W) (fun k s => (5, I ((i * W + k : Nat) : Int)) :: (8, U (dif base l[i] >>> k)) :: (21, I k) :: s) (fun k => .box b1 (.cells #[v] 22) :: .box b2 (.cells #[I base] 3) :: .box b3 (.cells #[I W] 3) :: J (i * W + k)) (fun k => W - k) 0 (Nat.zero_le _)
      (by rw [BitVec.ushiftRight_zero]; exact ⟨rfl, rfl, rfl, trivial⟩) ?_
    intro k hk
    repeat' (first
  | refine G_nilC ?_
  | refine G_nilN ?_
  | refine G_nilH ?_
  | (refine G_nil ?_; try clear ri_; try clear ops_)
  | (refine V_op ?_; first | exact True.intro | (intro v_ h_ w_ r_ t_; try (obtain ⟨ta_, tb_⟩ := (t_ : _ ∧ _)); try (obtain ⟨tb_, tc_⟩ := (tb_ : _ ∧ _)); try (obtain ⟨tc_, td_⟩ := (tc_ : _ ∧ _)); try (obtain ⟨td_, te_⟩ := (td_ : _ ∧ _))) | intro (ops_ : Array Oper) ri_ | intro (b_ : Bool) hb_ | (intro v_ h_; try (have o_ := FrzK.one h_)) | intro (v_ : Value) | intro (b_ : Nat) | (refine ⟨fun hc => ?_, fun hc => ?_⟩ <;> try (exfalso; omega)) | refine ⟨?_, ?_⟩ | intro _ | skip)
  | (refine Is_DQ ?_; first | (apply DQ_m rfl rfl rfl rfl; focus (intro wq_ Oq_ rq_ mm; (repeat (first | (refine G_nil ?_; exact X_done rfl (List.Sublist.refl _)) | refine V_op ?_)); done)) | (apply DQ_k rfl rfl rfl rfl; intro wq_ Oq_ rq_ mm) | (apply DQ_y rfl rfl rfl rfl; intro wq_ Oq_ rq_ mm)))
    · have hb : decide (((dif base l[i] >>> k &&& 1#64).toNat : Int) = 1) = bf W (l.map (dif base)) (i * W + k) := by
        rw [bf_at (by omega) (by simpa using hil), List.getElem_map]
        cases hc2 : (dif base l[i]).getLsbD k
        · exact decide_eq_false (fun h => by rw [and1_64.1 h] at hc2; cases hc2)
        · exact decide_eq_true (and1_64.2 hc2)
      refine G_yieldF rfl rfl rfl (by rw [hb]; exact hy (i * W + k) (by omega)) ?_
      repeat' (first
  | refine G_nilC ?_
  | refine G_nilN ?_
  | refine G_nilH ?_
  | (refine G_nil ?_; try clear ri_; try clear ops_)
  | (refine V_op ?_; first | exact True.intro | (intro v_ h_ w_ r_ t_; try (obtain ⟨ta_, tb_⟩ := (t_ : _ ∧ _)); try (obtain ⟨tb_, tc_⟩ := (tb_ : _ ∧ _)); try (obtain ⟨tc_, td_⟩ := (tc_ : _ ∧ _)); try (obtain ⟨td_, te_⟩ := (td_ : _ ∧ _))) | intro (ops_ : Array Oper) ri_ | intro (b_ : Bool) hb_ | (intro v_ h_; try (have o_ := FrzK.one h_)) | intro (v_ : Value) | intro (b_ : Nat) | (refine ⟨fun hc => ?_, fun hc => ?_⟩ <;> try (exfalso; omega)) | refine ⟨?_, ?_⟩ | intro _ | skip)
  | (refine Is_DQ ?_; first | (apply DQ_m rfl rfl rfl rfl; focus (intro wq_ Oq_ rq_ mm; (repeat (first | (refine G_nil ?_; exact X_done rfl (List.Sublist.refl _)) | refine V_op ?_)); done)) | (apply DQ_k rfl rfl rfl rfl; intro wq_ Oq_ rq_ mm) | (apply DQ_y rfl rfl rfl rfl; intro wq_ Oq_ rq_ mm)))
      rw [← BitVec.shiftRight_add]
      exact At_roundS (k + 1) (by omega) (by omega) (by repeat (first | exact trivial | refine And.intro rfl ?_)) (by repeat (first | exact trivial | refine And.intro rfl ?_))
    · obtain rfl : k = W := by omega
      exact At_roundS (i + 1) (by omega) (by omega) (by rw [Nat.add_mul, Nat.one_mul]; exact ⟨rfl, rfl, trivial⟩) (by repeat (first | exact trivial | refine And.intro rfl ?_)) (hw := by rw [Nat.add_mul, Nat.one_mul])
  · obtain rfl : i = l.length := by omega
    refine ret_n rfl (by repeat (first | exact ResAll.nil | (apply ResAll.cons; first | exact .tmp rfl | exact .cell rfl rfl | exact .one rfl))) fun w' h' => ?_
    exact ⟨⟨_, rfl⟩, h'⟩
instance {w0 : World} {O : List Nat} {m : List As} {v : Value} {l : List Int} (base W : Int) [h : RdR w0 O m v l] : CallR Try.prog w0 O m 57 [v, I base, I W] True (fun _ : Nat × Nat × Nat => True) dfV (fun b => dfM v base W b m) :=
  ⟨fun _ w hw => (@bp_differences w v l base W (RdOld.of (h.rd w hw))).mono (by
    rintro e w' ⟨b, _, he, hst⟩
    exact ⟨b, trivial, he, hw.grow hst⟩)⟩

theorem natCast_siz {n W : Nat} (h : (n : Int) * (W : Int) = ((n * W : Nat) : Int)) : (((n * W + 7) / 8 : Nat) : Int) = ((n : Int) * (W : Int) + 7) / 8 := by omega
theorem bp_form (w : World) (v : Value) (l : List Int) [h : RdOld w [] v l] (hi : okI l) (hn : l.length ≤ 100000) :
    Calls Try.prog 44 #[v] w (Ret w [] (fun _ : Value => True) (fun r => r) (fun r => [row r 5 (packB l)])) := by
  have hv1 := vint_10 (BitVec.ofNat 64 l.length)
  have hv2 := vint_10 (zig (lmin l))
  have hw := wid_le l
  by_cases h0 : l.length = 0
  · refine enterMF (N := 61) (args := [v]) Try.func44 rfl rfl rfl (St.refl w) ?_
    repeat' (first
  | refine G_nilC ?_
  | refine G_nilN ?_
  | refine G_nilH ?_
  | (refine G_nil ?_; try clear ri_; try clear ops_)
  | (refine V_op ?_; first | exact True.intro | (intro v_ h_ w_ r_ t_; try (obtain ⟨ta_, tb_⟩ := (t_ : _ ∧ _)); try (obtain ⟨tb_, tc_⟩ := (tb_ : _ ∧ _)); try (obtain ⟨tc_, td_⟩ := (tc_ : _ ∧ _)); try (obtain ⟨td_, te_⟩ := (td_ : _ ∧ _))) | intro (ops_ : Array Oper) ri_ | intro (b_ : Bool) hb_ | (intro v_ h_; try (have o_ := FrzK.one h_)) | intro (v_ : Value) | intro (b_ : Nat) | (refine ⟨fun hc => ?_, fun hc => ?_⟩ <;> try (exfalso; omega)) | refine ⟨?_, ?_⟩ | intro _ | skip)
  | (refine Is_DQ ?_; first | (apply DQ_m rfl rfl rfl rfl; focus (intro wq_ Oq_ rq_ mm; (repeat (first | (refine G_nil ?_; exact X_done rfl (List.Sublist.refl _)) | refine V_op ?_)); done)) | (apply DQ_k rfl rfl rfl rfl; intro wq_ Oq_ rq_ mm) | (apply DQ_y rfl rfl rfl rfl; intro wq_ Oq_ rq_ mm)))
    refine retM_ rfl (by repeat (first | exact ResAll.nil | (apply ResAll.cons; first | exact .tmp rfl | exact .cell rfl rfl | exact .one rfl))) fun w' h' => ?_
    rw [packB, if_pos h0]
    rw [h0] at h'
    exact .mk _ trivial rfl h'
  · have hm1 := hi _ (lmin_mem (show 0 < l.length by omega))
    refine enterMF (N := 61) (args := [v]) Try.func44 rfl rfl rfl (St.refl w) ?_
    repeat' (first
  | refine G_nilC ?_
  | refine G_nilN ?_
  | refine G_nilH ?_
  | (refine G_nil ?_; try clear ri_; try clear ops_)
  | (refine V_op ?_; first | exact True.intro | (intro v_ h_ w_ r_ t_; try (obtain ⟨ta_, tb_⟩ := (t_ : _ ∧ _)); try (obtain ⟨tb_, tc_⟩ := (tb_ : _ ∧ _)); try (obtain ⟨tc_, td_⟩ := (tc_ : _ ∧ _)); try (obtain ⟨td_, te_⟩ := (td_ : _ ∧ _))) | intro (ops_ : Array Oper) ri_ | intro (b_ : Bool) hb_ | (intro v_ h_; try (have o_ := FrzK.one h_)) | intro (v_ : Value) | intro (b_ : Nat) | (refine ⟨fun hc => ?_, fun hc => ?_⟩ <;> try (exfalso; omega)) | refine ⟨?_, ?_⟩ | intro _ | skip)
  | (refine Is_DQ ?_; first | (apply DQ_m rfl rfl rfl rfl; focus (intro wq_ Oq_ rq_ mm; (repeat (first | (refine G_nil ?_; exact X_done rfl (List.Sublist.refl _)) | refine V_op ?_)); done)) | (apply DQ_k rfl rfl rfl rfl; intro wq_ Oq_ rq_ mm) | (apply DQ_y rfl rfl rfl rfl; intro wq_ Oq_ rq_ mm)))
    rw [show blen (BitVec.ofInt 64 (lmax l) - BitVec.ofInt 64 (lmin l)).toNat = wid l from rfl]
    have hpk0 : packB l = (vint (BitVec.ofNat 64 l.length) ++ (vint (zig (lmin l)) ++ [BitVec.ofNat 8 (wid l)])) ++ leB (bitsN (bf (wid l) (l.map (dif (lmin l)))) (l.length * wid l)) (siz l.length (wid l)) := by rw [packB, if_neg h0, bodyB]; simp
    rw [hpk0]
    clear hpk0
    generalize wid l = W at hw ⊢
    generalize hpre : vint (BitVec.ofNat 64 l.length) ++ (vint (zig (lmin l)) ++ [BitVec.ofNat 8 W]) = pre
    have hpl : pre.length ≤ 21 := by rw [← hpre]; simp; omega
    clear hpre
    have hnw : l.length * W ≤ 6400000 := Nat.le_trans (Nat.mul_le_mul hn hw) (by decide)
    have hcast : (l.length : Int) * (W : Int) = ((l.length * W : Nat) : Int) := by simp
    generalize hS : siz l.length W = S
    unfold siz at hS
    repeat' (first
  | refine G_nilC ?_
  | refine G_nilN ?_
  | refine G_nilH ?_
  | (refine G_nil ?_; try clear ri_; try clear ops_)
  | (refine V_op ?_; first | exact True.intro | (intro v_ h_ w_ r_ t_; try (obtain ⟨ta_, tb_⟩ := (t_ : _ ∧ _)); try (obtain ⟨tb_, tc_⟩ := (tb_ : _ ∧ _)); try (obtain ⟨tc_, td_⟩ := (tc_ : _ ∧ _)); try (obtain ⟨td_, te_⟩ := (td_ : _ ∧ _))) | intro (ops_ : Array Oper) ri_ | intro (b_ : Bool) hb_ | (intro v_ h_; try (have o_ := FrzK.one h_)) | intro (v_ : Value) | intro (b_ : Nat) | (refine ⟨fun hc => ?_, fun hc => ?_⟩ <;> try (exfalso; omega)) | refine ⟨?_, ?_⟩ | intro _ | skip)
  | (refine Is_DQ ?_; first | (apply DQ_m rfl rfl rfl rfl; focus (intro wq_ Oq_ rq_ mm; (repeat (first | (refine G_nil ?_; exact X_done rfl (List.Sublist.refl _)) | refine V_op ?_)); done)) | (apply DQ_k rfl rfl rfl rfl; intro wq_ Oq_ rq_ mm) | (apply DQ_y rfl rfl rfl rfl; intro wq_ Oq_ rq_ mm)))
    rename_i r1 r rB
    obtain ⟨b1, b2, b3⟩ := v_
    rw [← natCast_siz hcast, hS, ← leB_zero]
    refine GC_rangeF (first := []) (cap := [.pointer (some ⟨b1, 0, none⟩), .pointer (some ⟨b2, 0, none⟩), .pointer (some ⟨b3, 0, none⟩)]) (.box b_ (.cells #[rB] 23) :: row rB 5 (leB (bitsN (bf W (l.map (dif (lmin l)))) (l.length * W)) S) :: [row r 5 pre]) rfl ?_ ?_
    · intro fn tmps dd ll w1 rc hrc hs hst
      refine (it_differences w [] v l (lmin l) W (b1, b2, b3) ll (fun k => .box b_ (.cells #[rB] 23) :: row rB 5 (leB (bitsN (bf W (l.map (dif (lmin l)))) k) S) :: .box ll rc :: .box dd (.deferred (some [])) :: [row r 5 pre]) hnw hw ?_ w1 ?_).mono ?_
      · intro k hk w2 hst2
        unfold dfM at *
        simp only at *
        subst hrc
        refine yd_F (ps := [45, 46]) hst2 hs rfl rfl rfl ?_
        repeat' (first
  | refine G_nilC ?_
  | refine G_nilN ?_
  | refine G_nilH ?_
  | (refine G_nil ?_; try clear ri_; try clear ops_)
  | (refine V_op ?_; first | exact True.intro | (intro v_ h_ w_ r_ t_; try (obtain ⟨ta_, tb_⟩ := (t_ : _ ∧ _)); try (obtain ⟨tb_, tc_⟩ := (tb_ : _ ∧ _)); try (obtain ⟨tc_, td_⟩ := (tc_ : _ ∧ _)); try (obtain ⟨td_, te_⟩ := (td_ : _ ∧ _))) | intro (ops_ : Array Oper) ri_ | intro (b_ : Bool) hb_ | (intro v_ h_; try (have o_ := FrzK.one h_)) | intro (v_ : Value) | intro (b_ : Nat) | (refine ⟨fun hc => ?_, fun hc => ?_⟩ <;> try (exfalso; omega)) | refine ⟨?_, ?_⟩ | intro _ | skip)
  | (refine Is_DQ ?_; first | (apply DQ_m rfl rfl rfl rfl; focus (intro wq_ Oq_ rq_ mm; (repeat (first | (refine G_nil ?_; exact X_done rfl (List.Sublist.refl _)) | refine V_op ?_)); done)) | (apply DQ_k rfl rfl rfl rfl; intro wq_ Oq_ rq_ mm) | (apply DQ_y rfl rfl rfl rfl; intro wq_ Oq_ rq_ mm)))
        refine At_beginF ?_
        have hkS : k / 8 < S := by omega
        have hLn : (leB (bitsN (bf W (l.map (dif (lmin l)))) k) S).length = S := by simp
        repeat' (first
  | refine G_nilC ?_
  | refine G_nilN ?_
  | refine G_nilH ?_
  | (refine G_nil ?_; try clear ri_; try clear ops_)
  | (refine V_op ?_; first | exact True.intro | (intro v_ h_ w_ r_ t_; try (obtain ⟨ta_, tb_⟩ := (t_ : _ ∧ _)); try (obtain ⟨tb_, tc_⟩ := (tb_ : _ ∧ _)); try (obtain ⟨tc_, td_⟩ := (tc_ : _ ∧ _)); try (obtain ⟨td_, te_⟩ := (td_ : _ ∧ _))) | intro (ops_ : Array Oper) ri_ | intro (b_ : Bool) hb_ | (intro v_ h_; try (have o_ := FrzK.one h_)) | intro (v_ : Value) | intro (b_ : Nat) | (refine ⟨fun hc => ?_, fun hc => ?_⟩ <;> try (exfalso; omega)) | refine ⟨?_, ?_⟩ | intro _ | skip)
  | (refine Is_DQ ?_; first | (apply DQ_m rfl rfl rfl rfl; focus (intro wq_ Oq_ rq_ mm; (repeat (first | (refine G_nil ?_; exact X_done rfl (List.Sublist.refl _)) | refine V_op ?_)); done)) | (apply DQ_k rfl rfl rfl rfl; intro wq_ Oq_ rq_ mm) | (apply DQ_y rfl rfl rfl rfl; intro wq_ Oq_ rq_ mm)))
        · rw [show (leB (bitsN (bf W (l.map (dif (lmin l)))) k) S).set (k / 8) ((leB (bitsN (bf W (l.map (dif (lmin l)))) k) S)[k / 8]'(by simpa using hkS) ||| 1#8 <<< (k % 8)) = leB (bitsN (bf W (l.map (dif (lmin l)))) (k + 1)) S by
            rw [leB_set hkS, bitsN_yes (by simpa using hc)]]
          exact At_endF fun w' h' => ⟨rfl, SubM.ent.st h'⟩
        · have e := bitsN_no (f := bf W (l.map (dif (lmin l)))) (n := k) (by simpa using hc)
          rw [← e]
          exact At_endF fun w' h' => ⟨rfl, SubM.ent.st h'⟩
      · simp only [dfM, bitsN] at hst ⊢
        exact SubM.ent.st hst
      · rintro e w2 ⟨he, hst2⟩
        simp only [dfM] at hst2
        exact ⟨he, SubM.ent.st hst2⟩
    · intro dd
      have hLn : (leB (bitsN (bf W (l.map (dif (lmin l)))) (l.length * W)) S).length = S := by simp
      repeat' (first
  | refine G_nilC ?_
  | refine G_nilN ?_
  | refine G_nilH ?_
  | (refine G_nil ?_; try clear ri_; try clear ops_)
  | (refine V_op ?_; first | exact True.intro | (intro v_ h_ w_ r_ t_; try (obtain ⟨ta_, tb_⟩ := (t_ : _ ∧ _)); try (obtain ⟨tb_, tc_⟩ := (tb_ : _ ∧ _)); try (obtain ⟨tc_, td_⟩ := (tc_ : _ ∧ _)); try (obtain ⟨td_, te_⟩ := (td_ : _ ∧ _))) | intro (ops_ : Array Oper) ri_ | intro (b_ : Bool) hb_ | (intro v_ h_; try (have o_ := FrzK.one h_)) | intro (v_ : Value) | intro (b_ : Nat) | (refine ⟨fun hc => ?_, fun hc => ?_⟩ <;> try (exfalso; omega)) | refine ⟨?_, ?_⟩ | intro _ | skip)
  | (refine Is_DQ ?_; first | (apply DQ_m rfl rfl rfl rfl; focus (intro wq_ Oq_ rq_ mm; (repeat (first | (refine G_nil ?_; exact X_done rfl (List.Sublist.refl _)) | refine V_op ?_)); done)) | (apply DQ_k rfl rfl rfl rfl; intro wq_ Oq_ rq_ mm) | (apply DQ_y rfl rfl rfl rfl; intro wq_ Oq_ rq_ mm)))
      refine At_markF (.inl rfl) ?_
      refine retM_ rfl (by repeat (first | exact ResAll.nil | (apply ResAll.cons; first | exact .tmp rfl | exact .cell rfl rfl | exact .one rfl))) fun w' h' => ?_
      exact .mk _ trivial rfl h'
end Go.Proofs.Ytdngfkmigpnbnaa
