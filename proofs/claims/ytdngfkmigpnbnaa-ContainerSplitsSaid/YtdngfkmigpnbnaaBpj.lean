/- Bitpack: UnpackIn, in the reference. -/
import Derived.Test.YtdngfkmigpnbnaaBpi
set_option linter.unusedVariables false
set_option linter.unusedSimpArgs false
set_option maxRecDepth 100000
set_option maxHeartbeats 4000000
namespace Go.Proofs.Ytdngfkmigpnbnaa
open Go.RowKit
attribute [local irreducible] G GC At wpL DR XPost CPost Cut GA GAR GAX GAt NxA GH GHR NxH

section
variable {w0 : World} {O : List Nat} {m : List As}
instance {v : Value} {bs : List (BitVec 8)} {r : Except Int (List Int × Nat)} [h : RdR w0 O m v bs] [hr : Eqn (unpB bs) r] : CallR Try.prog w0 O m 74 [v] True (fun _ : Value => True) (fun q => unV q (restV v bs) r) (fun q => row q 3 (unL r) :: m) :=
  .new1 (M := fun q => row q _ (unL r)) fun _ w hw => @bp_Unpack w v bs (RdOld.of (h.rd w hw)) r hr.eq
end
theorem lsA_zero (body : List (BitVec 8)) (low : Int) (W : Nat) : lsA body low W 0 = [] := rfl
theorem lsA_succ (body : List (BitVec 8)) (low : Int) (W n : Nat) : lsA body low W (n + 1) = lsA body low W n ++ [vAt body low W n] := by simp [lsA, List.range_succ]
/-- what UnpackIn gives -/
def unA (q rest : Value) : Except Int (List Int × Nat) → Value
  | .error e => .agg #[U 0#64, .slice none 0 0, .slice none 0 0, I e]
  | .ok _ => .agg #[U 0#64, q, rest, I 0]
theorem ref_UnpackIn (w : World) (v : Value) (bs : List (BitVec 8)) [h : RdOld w [] v bs] (r : Except Int (List Int × Nat)) (hr : unpB bs = r) :
    Calls Try.prog 41 #[v] w (Ret w [] (fun _ : Value => True) (fun q => unA q (restV v bs) r) (fun q => [row q 3 (unL r)])) := by
  have hlen := h.rd.len_le
  rcases h1 : rdB bs with e | ⟨n, k⟩
  · haveI : Eqn (rdB bs) (.error e) := ⟨h1⟩
    have he := rd_err h1
    obtain rfl : r = .error e := by rw [← hr, unpB, h1]
    refine enter (N := 117) (args := [v]) Try.func41 rfl rfl rfl (St.refl w) ?_
    repeat' (first
  | refine G_nilC ?_
  | refine G_nilN ?_
  | refine G_nilH ?_
  | (refine G_nil ?_; try clear ri_; try clear ops_)
  | (refine V_op ?_; first | exact True.intro | (intro v_ h_ w_ r_ t_; try (obtain ⟨ta_, tb_⟩ := (t_ : _ ∧ _)); try (obtain ⟨tb_, tc_⟩ := (tb_ : _ ∧ _)); try (obtain ⟨tc_, td_⟩ := (tc_ : _ ∧ _)); try (obtain ⟨td_, te_⟩ := (td_ : _ ∧ _))) | intro (ops_ : Array Oper) ri_ | intro (b_ : Bool) hb_ | (intro v_ h_; try (have o_ := FrzK.one h_)) | intro (v_ : Value) | intro (b_ : Nat) | (refine ⟨fun hc => ?_, fun hc => ?_⟩ <;> try (exfalso; omega)) | refine ⟨?_, ?_⟩ | intro _ | skip)
  | (refine Is_DQ ?_; first | (apply DQ_m rfl rfl rfl rfl; focus (intro wq_ Oq_ rq_ mm; (repeat (first | (refine G_nil ?_; exact X_done rfl (List.Sublist.refl _)) | refine V_op ?_)); done)) | (apply DQ_k rfl rfl rfl rfl; intro wq_ Oq_ rq_ mm) | (apply DQ_y rfl rfl rfl rfl; intro wq_ Oq_ rq_ mm)))
    simp only [unL]
    refine ret_ rfl (by repeat (first | exact ResAll.nil | (apply ResAll.cons; first | exact .tmp rfl | exact .cell rfl rfl | exact .one rfl))) fun w' h' => ?_
    exact .mk (.slice none 0 0) trivial rfl h'
  · haveI : Eqn (rdB bs) (.ok (n, k)) := ⟨h1⟩
    have hk := rdB_le h1
    have i1 : RdOld w [] (cut (BitVec 8) v k bs.length) (bs.drop k) := RdOld.of (rdL_rest h.rd hk.2)
    rw [unpB, h1] at hr
    simp only at hr
    have hrest := restV_ok (v := v) h1
    rcases h2 : rdB (bs.drop k) with e | ⟨u, j⟩
    · haveI : Eqn (rdB (bs.drop k)) (.error e) := ⟨h2⟩
      have he := rd_err h2
      rw [h2] at hr hrest
      refine enter (N := 117) (args := [v]) Try.func41 rfl rfl rfl (St.refl w) ?_
      repeat' (first
  | refine G_nilC ?_
  | refine G_nilN ?_
  | refine G_nilH ?_
  | (refine G_nil ?_; try clear ri_; try clear ops_)
  | (refine V_op ?_; first | exact True.intro | (intro v_ h_ w_ r_ t_; try (obtain ⟨ta_, tb_⟩ := (t_ : _ ∧ _)); try (obtain ⟨tb_, tc_⟩ := (tb_ : _ ∧ _)); try (obtain ⟨tc_, td_⟩ := (tc_ : _ ∧ _)); try (obtain ⟨td_, te_⟩ := (td_ : _ ∧ _))) | intro (ops_ : Array Oper) ri_ | intro (b_ : Bool) hb_ | (intro v_ h_; try (have o_ := FrzK.one h_)) | intro (v_ : Value) | intro (b_ : Nat) | (refine ⟨fun hc => ?_, fun hc => ?_⟩ <;> try (exfalso; omega)) | refine ⟨?_, ?_⟩ | intro _ | skip)
  | (refine Is_DQ ?_; first | (apply DQ_m rfl rfl rfl rfl; focus (intro wq_ Oq_ rq_ mm; (repeat (first | (refine G_nil ?_; exact X_done rfl (List.Sublist.refl _)) | refine V_op ?_)); done)) | (apply DQ_k rfl rfl rfl rfl; intro wq_ Oq_ rq_ mm) | (apply DQ_y rfl rfl rfl rfl; intro wq_ Oq_ rq_ mm)))
      · rw [if_pos (by omega)] at hr
        subst hr
        simp only [unL]
        refine ret_ rfl (by repeat (first | exact ResAll.nil | (apply ResAll.cons; first | exact .tmp rfl | exact .cell rfl rfl | exact .one rfl))) fun w' h' => ?_
        exact .mk (.slice none 0 0) trivial rfl h'
      · rw [if_neg (by omega), if_pos (by omega)] at hr
        rw [if_pos (by omega)] at hrest
        subst hr
        rw [hrest]
        simp only [unL]
        refine ret_ rfl (by repeat (first | exact ResAll.nil | (apply ResAll.cons; first | exact .tmp rfl | exact .cell rfl rfl | exact .one rfl))) fun w' h' => ?_
        exact .mk (.slice none 0 0) trivial rfl h'
      · rw [if_neg (by omega), if_neg (by omega)] at hr
        simp only at hr
        subst hr
        simp only [unL]
        refine ret_ rfl (by repeat (first | exact ResAll.nil | (apply ResAll.cons; first | exact .tmp rfl | exact .cell rfl rfl | exact .one rfl))) fun w' h' => ?_
        exact .mk (.slice none 0 0) trivial rfl h'
    · haveI : Eqn (rdB (bs.drop k)) (.ok (u, j)) := ⟨h2⟩
      have hj := rdB_le h2
      have hd1 : (bs.drop k).length = bs.length - k := by simp
      have i2 : RdOld w [] (cut (BitVec 8) (cut (BitVec 8) v k bs.length) j (bs.drop k).length) ((bs.drop k).drop j) := RdOld.of (rdL_rest i1.rd hj.2)
      have hd2 : ((bs.drop k).drop j).length = bs.length - k - j := by rw [List.length_drop, hd1]
      rw [h2] at hr hrest
      simp only at hr hrest
      generalize (bs.drop k).drop j = b2 at *
      refine enter (N := 117) (args := [v]) Try.func41 rfl rfl rfl (St.refl w) ?_
      repeat' (first
  | refine G_nilC ?_
  | refine G_nilN ?_
  | refine G_nilH ?_
  | (refine G_nil ?_; try clear ri_; try clear ops_)
  | (refine V_op ?_; first | exact True.intro | (intro v_ h_ w_ r_ t_; try (obtain ⟨ta_, tb_⟩ := (t_ : _ ∧ _)); try (obtain ⟨tb_, tc_⟩ := (tb_ : _ ∧ _)); try (obtain ⟨tc_, td_⟩ := (tc_ : _ ∧ _)); try (obtain ⟨td_, te_⟩ := (td_ : _ ∧ _))) | intro (ops_ : Array Oper) ri_ | intro (b_ : Bool) hb_ | (intro v_ h_; try (have o_ := FrzK.one h_)) | intro (v_ : Value) | intro (b_ : Nat) | (refine ⟨fun hc => ?_, fun hc => ?_⟩ <;> try (exfalso; omega)) | refine ⟨?_, ?_⟩ | intro _ | skip)
  | (refine Is_DQ ?_; first | (apply DQ_m rfl rfl rfl rfl; focus (intro wq_ Oq_ rq_ mm; (repeat (first | (refine G_nil ?_; exact X_done rfl (List.Sublist.refl _)) | refine V_op ?_)); done)) | (apply DQ_k rfl rfl rfl rfl; intro wq_ Oq_ rq_ mm) | (apply DQ_y rfl rfl rfl rfl; intro wq_ Oq_ rq_ mm)))
      · rw [if_pos (by omega)] at hr
        subst hr
        simp only [unL]
        refine ret_ rfl (by repeat (first | exact ResAll.nil | (apply ResAll.cons; first | exact .tmp rfl | exact .cell rfl rfl | exact .one rfl))) fun w' h' => ?_
        exact .mk (.slice none 0 0) trivial rfl h'
      · rw [if_neg (by omega), if_pos (by omega)] at hr
        rw [if_pos (by omega)] at hrest
        subst hr
        rw [hrest]
        simp only [unL]
        refine ret_ rfl (by repeat (first | exact ResAll.nil | (apply ResAll.cons; first | exact .tmp rfl | exact .cell rfl rfl | exact .one rfl))) fun w' h' => ?_
        exact .mk (.slice none 0 0) trivial rfl h'
      · rw [if_neg (by omega), if_neg (by omega), unp1, if_pos (by omega)] at hr
        subst hr
        simp only [unL]
        refine ret_ rfl (by repeat (first | exact ResAll.nil | (apply ResAll.cons; first | exact .tmp rfl | exact .cell rfl rfl | exact .one rfl))) fun w' h' => ?_
        exact .mk (.slice none 0 0) trivial rfl h'
      all_goals
        have hpos : 0 < b2.length := by omega
        have hg0 : b2.getD 0 0#8 = b2[0] := by rw [List.getD_eq_getElem?_getD, List.getElem?_eq_getElem hpos]; rfl
        rw [if_neg (by omega), if_neg (by omega), unp1, if_neg (by omega), hg0] at hr
      · rw [if_pos (by omega)] at hr
        subst hr
        simp only [unL]
        refine ret_ rfl (by repeat (first | exact ResAll.nil | (apply ResAll.cons; first | exact .tmp rfl | exact .cell rfl rfl | exact .one rfl))) fun w' h' => ?_
        exact .mk (.slice none 0 0) trivial rfl h'
      · rw [if_neg (by omega)] at hr
        rw [if_neg (by omega), hg0] at hrest
        have i3 : RdOld w [] (cut (BitVec 8) (cut (BitVec 8) (cut (BitVec 8) v k bs.length) j (bs.drop k).length) 1 b2.length) (b2.drop 1) := RdOld.of (rdL_rest i2.rd hpos)
        have hd3 : (b2.drop 1).length = b2.length - 1 := by simp
        clear hg0
        generalize b2[0] = x at *
        generalize b2.drop 1 = body at *
        have hnI : n.toInt = (n.toNat : Int) := by rw [BitVec.toInt_eq_toNat_cond]; omega
        have hmul : (n.toNat : Int) * (x.toNat : Int) = ((n.toNat * x.toNat : Nat) : Int) := by simp
        have hmb : n.toNat * x.toNat ≤ 262144 := Nat.mul_le_mul (show n.toNat ≤ 4096 by omega) (show x.toNat ≤ 64 by omega)
        have hsz : siz n.toNat x.toNat = (n.toNat * x.toNat + 7) / 8 := rfl
        rw [hnI]
        repeat' (first
  | refine G_nilC ?_
  | refine G_nilN ?_
  | refine G_nilH ?_
  | (refine G_nil ?_; try clear ri_; try clear ops_)
  | (refine V_op ?_; first | exact True.intro | (intro v_ h_ w_ r_ t_; try (obtain ⟨ta_, tb_⟩ := (t_ : _ ∧ _)); try (obtain ⟨tb_, tc_⟩ := (tb_ : _ ∧ _)); try (obtain ⟨tc_, td_⟩ := (tc_ : _ ∧ _)); try (obtain ⟨td_, te_⟩ := (td_ : _ ∧ _))) | intro (ops_ : Array Oper) ri_ | intro (b_ : Bool) hb_ | (intro v_ h_; try (have o_ := FrzK.one h_)) | intro (v_ : Value) | intro (b_ : Nat) | (refine ⟨fun hc => ?_, fun hc => ?_⟩ <;> try (exfalso; omega)) | refine ⟨?_, ?_⟩ | intro _ | skip)
  | (refine Is_DQ ?_; first | (apply DQ_m rfl rfl rfl rfl; focus (intro wq_ Oq_ rq_ mm; (repeat (first | (refine G_nil ?_; exact X_done rfl (List.Sublist.refl _)) | refine V_op ?_)); done)) | (apply DQ_k rfl rfl rfl rfl; intro wq_ Oq_ rq_ mm) | (apply DQ_y rfl rfl rfl rfl; intro wq_ Oq_ rq_ mm)))
        · rw [if_pos (by omega)] at hr
          subst hr
          simp only [unL]
          refine ret_ rfl (by repeat (first | exact ResAll.nil | (apply ResAll.cons; first | exact .tmp rfl | exact .cell rfl rfl | exact .one rfl))) fun w' h' => ?_
          exact .mk (.slice none 0 0) trivial rfl h'
        · rw [if_neg (by omega)] at hr
          generalize restV v bs = vR at *
          generalize cut (BitVec 8) (cut (BitVec 8) (cut (BitVec 8) v k bs.length) j (bs.drop k).length) 1 b2.length = vB at *
          have hlr := unzig_range u
          generalize unzig u = low at *
          refine GC_loopS (X := Nat × Value) (fun y => y.1 ≤ n.toNat ∧ ∀ i', i' < y.1 → low ≤ vAt body low x.toNat i') (fun y s => (10, I y.1) :: (9, y.2) :: s)
            (fun y q => row y.2 3 (lsA body low x.toNat y.1) :: q) (fun y => n.toNat - y.1) (0, _) ⟨Nat.zero_le _, fun i' h' => absurd h' (Nat.not_lt_zero _)⟩ (by repeat (first | exact trivial | refine And.intro rfl ?_)) ?_ (hm0 := by simp only [lsA_zero]; exact rfl)
          rintro ⟨i, q⟩ ⟨hi, hge⟩
          simp only at hi hge ⊢
          have hLn := lsA_length body low x.toNat i
          have hok := lsA_ok body low x.toNat i
          have hm1 : i < n.toNat → (i + 1) * x.toNat ≤ n.toNat * x.toNat := fun hh => Nat.mul_le_mul_right _ hh
          rw [Nat.add_mul, Nat.one_mul] at hm1
          have hc2 : (i : Int) * (x.toNat : Int) = ((i * x.toNat : Nat) : Int) := by simp
          repeat' (first
  | refine G_nilC ?_
  | refine G_nilN ?_
  | refine G_nilH ?_
  | (refine G_nil ?_; try clear ri_; try clear ops_)
  | (refine V_op ?_; first | exact True.intro | (intro v_ h_ w_ r_ t_; try (obtain ⟨ta_, tb_⟩ := (t_ : _ ∧ _)); try (obtain ⟨tb_, tc_⟩ := (tb_ : _ ∧ _)); try (obtain ⟨tc_, td_⟩ := (tc_ : _ ∧ _)); try (obtain ⟨td_, te_⟩ := (td_ : _ ∧ _))) | intro (ops_ : Array Oper) ri_ | intro (b_ : Bool) hb_ | (intro v_ h_; try (have o_ := FrzK.one h_)) | intro (v_ : Value) | intro (b_ : Nat) | (refine ⟨fun hc => ?_, fun hc => ?_⟩ <;> try (exfalso; omega)) | refine ⟨?_, ?_⟩ | intro _ | skip)
  | (refine Is_DQ ?_; first | (apply DQ_m rfl rfl rfl rfl; focus (intro wq_ Oq_ rq_ mm; (repeat (first | (refine G_nil ?_; exact X_done rfl (List.Sublist.refl _)) | refine V_op ?_)); done)) | (apply DQ_k rfl rfl rfl rfl; intro wq_ Oq_ rq_ mm) | (apply DQ_y rfl rfl rfl rfl; intro wq_ Oq_ rq_ mm)))
          · rw [show (BitVec.ofInt 64 low + BitVec.ofNat 64 (rdBits body (i * x.toNat) x.toNat)).toInt = vAt body low x.toNat i from rfl] at hc
            rw [unp2, if_neg (fun hh => by have := hh.1 i (by omega); omega)] at hr
            subst hr
            simp only [unL]
            refine ret_ rfl (by repeat (first | exact ResAll.nil | (apply ResAll.cons; first | exact .tmp rfl | exact .cell rfl rfl | exact .one rfl))) fun w' h' => ?_
            exact .mk (.slice none 0 0) trivial rfl h'
          · rw [show (BitVec.ofInt 64 low + BitVec.ofNat 64 (rdBits body (i * x.toNat) x.toNat)).toInt = vAt body low x.toNat i from rfl] at hc ⊢
            rw [← lsA_succ]
            exact At_roundS (i + 1, _) ⟨by simp only; omega, fun i' h' => by
              by_cases e : i' = i
              · subst e; omega
              · exact hge i' (by simp only at h'; omega)⟩ (by simp only; omega) (by repeat (first | exact trivial | refine And.intro rfl ?_)) (by repeat (first | exact trivial | refine And.intro rfl ?_))
          all_goals
            obtain rfl : i = n.toNat := by omega
            rw [List.drop_zero, Nat.sub_zero, show bs.length - body.length + (n.toNat * x.toNat + 7) / 8 = k + j + 1 + siz n.toNat x.toNat by omega] at hc
          · rw [unp2, if_neg (fun hh => hc hh.2)] at hr
            subst hr
            simp only [unL]
            refine ret_ rfl (by repeat (first | exact ResAll.nil | (apply ResAll.cons; first | exact .tmp rfl | exact .cell rfl rfl | exact .one rfl))) fun w' h' => ?_
            exact .mk (.slice none 0 0) trivial rfl h'
          · rw [unp2, if_pos ⟨hge, Classical.not_not.1 hc⟩] at hr
            subst hr
            rw [hrest]
            simp only [unL]
            refine ret_ rfl (by repeat (first | exact ResAll.nil | (apply ResAll.cons; first | exact .tmp rfl | exact .cell rfl rfl | exact .one rfl))) fun w' h' => ?_
            exact .mk _ trivial rfl h'
section
variable {w0 : World} {O : List Nat} {m : List As}
instance {v : Value} {bs : List (BitVec 8)} {r : Except Int (List Int × Nat)} [h : RdR w0 O m v bs] [hr : Eqn (unpB bs) r] : CallR Try.prog w0 O m 41 [v] True (fun _ : Value => True) (fun q => unA q (restV v bs) r) (fun q => row q 3 (unL r) :: m) :=
  .new1 (M := fun q => row q _ (unL r)) fun _ w hw => @ref_UnpackIn w v bs (RdOld.of (h.rd w hw)) r hr.eq
end

instance slcR_rest {w0 : World} {O : List Nat} {m : List As} {v : Value} {bs : List (BitVec 8)} [h : SlcR w0 O m v] : SlcR w0 O m (restV v bs) := by
  unfold restV
  split
  · exact inferInstance
  · split
    · exact inferInstance
    · split
      · exact inferInstance
      · exact inferInstance
/-! ### The laws' wrappers -/
end Go.Proofs.Ytdngfkmigpnbnaa
