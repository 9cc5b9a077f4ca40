/- Bitpack: variable-length codes are read. -/
import Derived.Test.YtnncjfphdcfimaaBpa
set_option linter.unusedVariables false
set_option linter.unusedSimpArgs false
set_option maxRecDepth 100000
set_option maxHeartbeats 4000000
namespace Go.Proofs.Ytnncjfphdcfimaa
open Go.RowKit
attribute [local irreducible] G GC At wpL DR XPost CPost Cut GA GAR GAX GAt NxA GH GHR NxH

/-- what is read from the i-th byte on: the number and how many bytes, or the error -/
def rdGo (i : Nat) (u : BitVec 64) : List (BitVec 8) → Except Int (BitVec 64 × Nat)
  | [] => .error 7
  | x :: r =>
    if i = 9 ∧ 1 < x.toNat then .error 5
    else if x.toNat < 128 then
      if x.toNat = 0 ∧ 0 < i then .error 5 else .ok (u ||| ((x &&& 127#8).setWidth 64 <<< (7 * i)), i + 1)
    else rdGo (i + 1) (u ||| ((x &&& 127#8).setWidth 64 <<< (7 * i))) r
def rdB (bs : List (BitVec 8)) : Except Int (BitVec 64 × Nat) := rdGo 0 0#64 bs

/-- what Read gives -/
def rdV (v : Value) (n : Nat) : Except Int (BitVec 64 × Nat) → Value
  | .error e => .tuple #[U 0#64, .slice none 0 0, I e]
  | .ok (u, k) => .tuple #[U u, cut (BitVec 8) v k n, I 0]

theorem bp_Read (w : World) (v : Value) (bs : List (BitVec 8)) [h : RdOld w [] v bs] (r : Except Int (BitVec 64 × Nat)) (hr : rdB bs = r) :
    Calls Try.prog 69 #[v] w (Is w (rdV v bs.length r)) := by
  have hlen := h.rd.len_le
  refine enter (N := 43) (args := [v]) Try.func69 rfl rfl rfl (St.refl w) ?_
  repeat' (first
  | refine G_nilC ?_
  | refine G_nilN ?_
  | refine G_nilH ?_
  | (refine G_nil ?_; try clear ri_; try clear ops_)
  | (refine V_op ?_; first | exact True.intro | (intro v_ h_ w_ r_ t_; try (obtain ⟨ta_, tb_⟩ := (t_ : _ ∧ _)); try (obtain ⟨tb_, tc_⟩ := (tb_ : _ ∧ _)); try (obtain ⟨tc_, td_⟩ := (tc_ : _ ∧ _)); try (obtain ⟨td_, te_⟩ := (td_ : _ ∧ _))) | intro (ops_ : Array Oper) ri_ | intro (b_ : Bool) hb_ | (intro v_ h_; try (have o_ := FrzK.one h_)) | intro (v_ : Value) | intro (b_ : Nat) | (refine ⟨fun hc => ?_, fun hc => ?_⟩ <;> try (exfalso; omega)) | refine ⟨?_, ?_⟩ | intro _ | skip)
  | (refine Is_DQ ?_; first | (apply DQ_m rfl rfl rfl rfl; focus (intro wq_ Oq_ rq_ mm; (repeat (first | (refine G_nil ?_; exact X_done rfl (List.Sublist.refl _)) | refine V_op ?_)); done)) | (apply DQ_k rfl rfl rfl rfl; intro wq_ Oq_ rq_ mm) | (apply DQ_y rfl rfl rfl rfl; intro wq_ Oq_ rq_ mm)))
  refine GC_loopS (X := Nat × BitVec 64) (fun y => y.1 ≤ bs.length ∧ y.1 ≤ 9 ∧ rdGo y.1 y.2 (bs.drop y.1) = r)
    (fun y s => (5, U y.2) :: (10, I y.1) :: s) (fun _ r => r) (fun y => bs.length - y.1) (0, 0#64) ⟨Nat.zero_le _, by simp, hr⟩ (by repeat (first | exact trivial | refine And.intro rfl ?_)) ?_
  rintro ⟨k, u⟩ ⟨hk, hk9, hr⟩
  simp only at hk hk9 hr ⊢
  repeat' (first
  | refine G_nilC ?_
  | refine G_nilN ?_
  | refine G_nilH ?_
  | (refine G_nil ?_; try clear ri_; try clear ops_)
  | (refine V_op ?_; first | exact True.intro | (intro v_ h_ w_ r_ t_; try (obtain ⟨ta_, tb_⟩ := (t_ : _ ∧ _)); try (obtain ⟨tb_, tc_⟩ := (tb_ : _ ∧ _)); try (obtain ⟨tc_, td_⟩ := (tc_ : _ ∧ _)); try (obtain ⟨td_, te_⟩ := (td_ : _ ∧ _))) | intro (ops_ : Array Oper) ri_ | intro (b_ : Bool) hb_ | (intro v_ h_; try (have o_ := FrzK.one h_)) | intro (v_ : Value) | intro (b_ : Nat) | (refine ⟨fun hc => ?_, fun hc => ?_⟩ <;> try (exfalso; omega)) | refine ⟨?_, ?_⟩ | intro _ | skip)
  | (refine Is_DQ ?_; first | (apply DQ_m rfl rfl rfl rfl; focus (intro wq_ Oq_ rq_ mm; (repeat (first | (refine G_nil ?_; exact X_done rfl (List.Sublist.refl _)) | refine V_op ?_)); done)) | (apply DQ_k rfl rfl rfl rfl; intro wq_ Oq_ rq_ mm) | (apply DQ_y rfl rfl rfl rfl; intro wq_ Oq_ rq_ mm)))
  all_goals first
    | (rw [List.drop_eq_getElem_cons (by omega), rdGo] at hr
       repeat (first | rw [if_pos (by omega)] at hr | rw [if_neg (by omega)] at hr)
       first
       | (subst hr; exact ret_three rfl rfl rfl rfl fun w' h' => .mk rfl h')
       | exact At_roundS (k + 1, _) ⟨by omega, by omega, hr⟩ (by simp only; omega) (by repeat (first | exact trivial | refine And.intro rfl ?_)) (by repeat (first | exact trivial | refine And.intro rfl ?_)))
    | (rw [List.drop_of_length_le (by omega), rdGo] at hr
       subst hr
       exact ret_three rfl rfl rfl rfl fun w' h' => .mk rfl h')
theorem rdGo_le : ∀ (l : List (BitVec 8)) (i : Nat) (u v : BitVec 64) (k : Nat), rdGo i u l = .ok (v, k) → i < k ∧ k ≤ i + l.length
  | [], i, u, v, k, h => by simp [rdGo] at h
  | x :: r, i, u, v, k, h => by
    rw [rdGo] at h
    split at h
    · cases h
    · split at h
      · split at h
        · cases h
        · simp only [Except.ok.injEq, Prod.mk.injEq] at h
          simp only [List.length_cons]; omega
      · have := rdGo_le r (i + 1) _ v k h
        simp only [List.length_cons]; omega
theorem rdB_le {bs : List (BitVec 8)} {u : BitVec 64} {k : Nat} (h : rdB bs = .ok (u, k)) : 0 < k ∧ k ≤ bs.length := by
  have := rdGo_le bs 0 0#64 u k h; omega

/-- what ReadIn gives -/
def riV (v : Value) (n : Nat) : Except Int (BitVec 64 × Nat) → Value
  | .error e => .agg #[U 0#64, .slice none 0 0, .slice none 0 0, I e]
  | .ok (u, k) => .agg #[U u, .slice none 0 0, cut (BitVec 8) v k n, I 0]

theorem lo7 (x : BitVec 8) : BitVec.ofInt 64 ((x.toNat : Int) % 128) = (x &&& 127#8).setWidth 64 := by
  apply BitVec.eq_of_toNat_eq
  have h1 : (x &&& 127#8).toNat = x.toNat % 128 := by rw [BitVec.toNat_and]; exact Nat.and_two_pow_sub_one_eq_mod x.toNat 7
  have hx := x.isLt
  rw [BitVec.toNat_setWidth, h1, BitVec.toNat_ofInt]
  omega
theorem or_add {u d : BitVec 64} {k : Nat} (hu : u.toNat < 2 ^ (7 * k)) : u + d <<< (7 * k) = u ||| d <<< (7 * k) := by
  refine BitVec.add_eq_or_of_and_eq_zero _ _ ?_
  apply BitVec.eq_of_getLsbD_eq
  intro i hi
  rw [BitVec.getLsbD_and, BitVec.getLsbD_shiftLeft]
  by_cases h : i < 7 * k
  · simp [h]
  · have : u.getLsbD i = false := by
      rw [BitVec.getLsbD]
      exact Nat.testBit_lt_two_pow (Nat.lt_of_lt_of_le hu (Nat.pow_le_pow_right (by omega) (by omega)))
    simp [this]
theorem or_lt {u : BitVec 64} {x : BitVec 8} {k : Nat} (hu : u.toNat < 2 ^ (7 * k)) : (u ||| (x &&& 127#8).setWidth 64 <<< (7 * k)).toNat < 2 ^ (7 * (k + 1)) := by
  have h1 : (x &&& 127#8).toNat = x.toNat % 128 := by rw [BitVec.toNat_and]; exact Nat.and_two_pow_sub_one_eq_mod x.toNat 7
  rw [BitVec.toNat_or]
  refine Nat.or_lt_two_pow (Nat.lt_of_lt_of_le hu (Nat.pow_le_pow_right (by omega) (by omega))) ?_
  rw [BitVec.toNat_shiftLeft, BitVec.toNat_setWidth, h1, Nat.shiftLeft_eq]
  refine Nat.lt_of_le_of_lt (Nat.mod_le _ _) ?_
  rw [Nat.mul_add, Nat.mul_one, Nat.pow_add, Nat.mul_comm (2 ^ (7 * k))]
  exact Nat.mul_lt_mul_of_lt_of_le (by omega) (Nat.le_refl _) (Nat.pow_pos (by omega))

theorem ref_ReadIn (w : World) (v : Value) (bs : List (BitVec 8)) [h : RdOld w [] v bs] (r : Except Int (BitVec 64 × Nat)) (hr : rdB bs = r) :
    Calls Try.prog 38 #[v] w (Is w (riV v bs.length r)) := by
  have hlen := h.rd.len_le
  refine enter (N := 58) (args := [v]) Try.func38 rfl rfl rfl (St.refl w) ?_
  repeat' (first
  | refine G_nilC ?_
  | refine G_nilN ?_
  | refine G_nilH ?_
  | (refine G_nil ?_; try clear ri_; try clear ops_)
  | (refine V_op ?_; first | exact True.intro | (intro v_ h_ w_ r_ t_; try (obtain ⟨ta_, tb_⟩ := (t_ : _ ∧ _)); try (obtain ⟨tb_, tc_⟩ := (tb_ : _ ∧ _)); try (obtain ⟨tc_, td_⟩ := (tc_ : _ ∧ _)); try (obtain ⟨td_, te_⟩ := (td_ : _ ∧ _))) | intro (ops_ : Array Oper) ri_ | intro (b_ : Bool) hb_ | (intro v_ h_; try (have o_ := FrzK.one h_)) | intro (v_ : Value) | intro (b_ : Nat) | (refine ⟨fun hc => ?_, fun hc => ?_⟩ <;> try (exfalso; omega)) | refine ⟨?_, ?_⟩ | intro _ | skip)
  | (refine Is_DQ ?_; first | (apply DQ_m rfl rfl rfl rfl; focus (intro wq_ Oq_ rq_ mm; (repeat (first | (refine G_nil ?_; exact X_done rfl (List.Sublist.refl _)) | refine V_op ?_)); done)) | (apply DQ_k rfl rfl rfl rfl; intro wq_ Oq_ rq_ mm) | (apply DQ_y rfl rfl rfl rfl; intro wq_ Oq_ rq_ mm)))
  refine GC_loopS (X := Nat × BitVec 64) (fun y => y.1 ≤ bs.length ∧ y.1 ≤ 9 ∧ y.2.toNat < 2 ^ (7 * y.1) ∧ rdGo y.1 y.2 (bs.drop y.1) = r)
    (fun y s => (3, U y.2) :: (4, I y.1) :: s) (fun _ r => r) (fun y => bs.length - y.1) (0, 0#64) ⟨Nat.zero_le _, by simp, by decide, hr⟩ (by repeat (first | exact trivial | refine And.intro rfl ?_)) ?_
  rintro ⟨k, u⟩ ⟨hk, hk9, hu, hr⟩
  simp only at hk hk9 hu hr ⊢
  repeat' (first
  | refine G_nilC ?_
  | refine G_nilN ?_
  | refine G_nilH ?_
  | (refine G_nil ?_; try clear ri_; try clear ops_)
  | (refine V_op ?_; first | exact True.intro | (intro v_ h_ w_ r_ t_; try (obtain ⟨ta_, tb_⟩ := (t_ : _ ∧ _)); try (obtain ⟨tb_, tc_⟩ := (tb_ : _ ∧ _)); try (obtain ⟨tc_, td_⟩ := (tc_ : _ ∧ _)); try (obtain ⟨td_, te_⟩ := (td_ : _ ∧ _))) | intro (ops_ : Array Oper) ri_ | intro (b_ : Bool) hb_ | (intro v_ h_; try (have o_ := FrzK.one h_)) | intro (v_ : Value) | intro (b_ : Nat) | (refine ⟨fun hc => ?_, fun hc => ?_⟩ <;> try (exfalso; omega)) | refine ⟨?_, ?_⟩ | intro _ | skip)
  | (refine Is_DQ ?_; first | (apply DQ_m rfl rfl rfl rfl; focus (intro wq_ Oq_ rq_ mm; (repeat (first | (refine G_nil ?_; exact X_done rfl (List.Sublist.refl _)) | refine V_op ?_)); done)) | (apply DQ_k rfl rfl rfl rfl; intro wq_ Oq_ rq_ mm) | (apply DQ_y rfl rfl rfl rfl; intro wq_ Oq_ rq_ mm)))
  all_goals try simp only [lo7, or_add hu] at *
  all_goals first
    | (rw [List.drop_eq_getElem_cons (by omega), rdGo] at hr
       have hz : ((bs[k] &&& 127#8).setWidth 64).toNat = bs[k].toNat % 128 := by
         rw [BitVec.toNat_setWidth, BitVec.toNat_and, show (127#8).toNat = 2 ^ 7 - 1 from rfl, Nat.and_two_pow_sub_one_eq_mod]
         omega
       repeat (first | rw [if_pos (by omega)] at hr | rw [if_neg (by omega)] at hr)
       first
       | (subst hr; refine ret_ rfl (by repeat (first | exact ResAll.nil | (apply ResAll.cons; first | exact .tmp rfl | exact .cell rfl rfl | exact .one rfl))) fun w' h' => ?_; exact .mk rfl h')
       | exact At_roundS (k + 1, _) ⟨by omega, by omega, or_lt hu, hr⟩ (by simp only; omega) (by repeat (first | exact trivial | refine And.intro rfl ?_)) (by repeat (first | exact trivial | refine And.intro rfl ?_)))
    | (rw [List.drop_of_length_le (by omega), rdGo] at hr
       subst hr
       refine ret_ rfl (by repeat (first | exact ResAll.nil | (apply ResAll.cons; first | exact .tmp rfl | exact .cell rfl rfl | exact .one rfl))) fun w' h' => ?_
       exact .mk rfl h')

instance {w0 : World} {O : List Nat} {m : List As} {v : Value} {bs : List (BitVec 8)} {r : Except Int (BitVec 64 × Nat)} [h : RdR w0 O m v bs] [hr : Eqn (rdB bs) r] : CallV Try.prog w0 O m 69 [v] True (rdV v bs.length r) :=
  ⟨fun _ w hw => @bp_Read w v bs (RdOld.of (h.rd w hw)) r hr.eq⟩
instance {w0 : World} {O : List Nat} {m : List As} {v : Value} {bs : List (BitVec 8)} {r : Except Int (BitVec 64 × Nat)} [h : RdR w0 O m v bs] [hr : Eqn (rdB bs) r] : CallV Try.prog w0 O m 38 [v] True (riV v bs.length r) :=
  ⟨fun _ w hw => @ref_ReadIn w v bs (RdOld.of (h.rd w hw)) r hr.eq⟩

/-! ### Comparisons -/
theorem same_step {α : Type} {l l' : List α} {k : Nat} (h : k < l.length) (h' : k < l'.length) (he : l.take k = l'.take k) : l.take (k + 1) = l'.take (k + 1) ↔ l[k] = l'[k] := by
  rw [List.take_succ_eq_append_getElem h, List.take_succ_eq_append_getElem h', he, List.append_cancel_left_eq]; simp
theorem ref_Same (w : World) (v v' : Value) (l l' : List (BitVec 8)) [h : RdOld w [] v l] [h' : RdOld w [] v' l'] : Calls Try.prog 24 #[v, v'] w (Is w (.bool (decide (l = l')))) := by
  have hl := h.rd.len_le
  have hl' := h'.rd.len_le
  refine enter (N := 26) (args := [v, v']) Try.func24 rfl rfl rfl (St.refl w) ?_
  repeat' (first
  | refine G_nilC ?_
  | refine G_nilN ?_
  | refine G_nilH ?_
  | (refine G_nil ?_; try clear ri_; try clear ops_)
  | (refine V_op ?_; first | exact True.intro | (intro v_ h_ w_ r_ t_; try (obtain ⟨ta_, tb_⟩ := (t_ : _ ∧ _)); try (obtain ⟨tb_, tc_⟩ := (tb_ : _ ∧ _)); try (obtain ⟨tc_, td_⟩ := (tc_ : _ ∧ _)); try (obtain ⟨td_, te_⟩ := (td_ : _ ∧ _))) | intro (ops_ : Array Oper) ri_ | intro (b_ : Bool) hb_ | (intro v_ h_; try (have o_ := FrzK.one h_)) | intro (v_ : Value) | intro (b_ : Nat) | (refine ⟨fun hc => ?_, fun hc => ?_⟩ <;> try (exfalso; omega)) | refine ⟨?_, ?_⟩ | intro _ | skip)
  | (refine Is_DQ ?_; first | (apply DQ_m rfl rfl rfl rfl; focus (intro wq_ Oq_ rq_ mm; (repeat (first | (refine G_nil ?_; exact X_done rfl (List.Sublist.refl _)) | refine V_op ?_)); done)) | (apply DQ_k rfl rfl rfl rfl; intro wq_ Oq_ rq_ mm) | (apply DQ_y rfl rfl rfl rfl; intro wq_ Oq_ rq_ mm)))
  · refine ret_ rfl (by repeat (first | exact ResAll.nil | (apply ResAll.cons; first | exact .tmp rfl | exact .cell rfl rfl | exact .one rfl))) fun w' h' => ?_
    exact .mk (by rw [decide_eq_false (p := l = l') (fun he => by subst he; omega)]) h'
  · refine GC_loopS (X := Nat) (fun k => k ≤ l.length ∧ l.take k = l'.take k) (fun k s => (5, I k) :: s) (fun _ r => r) (fun k => l.length - k) 0 ⟨Nat.zero_le _, by simp⟩ (by repeat (first | exact trivial | refine And.intro rfl ?_)) ?_
    rintro k ⟨hk, he⟩
    repeat' (first
  | refine G_nilC ?_
  | refine G_nilN ?_
  | refine G_nilH ?_
  | (refine G_nil ?_; try clear ri_; try clear ops_)
  | (refine V_op ?_; first | exact True.intro | (intro v_ h_ w_ r_ t_; try (obtain ⟨ta_, tb_⟩ := (t_ : _ ∧ _)); try (obtain ⟨tb_, tc_⟩ := (tb_ : _ ∧ _)); try (obtain ⟨tc_, td_⟩ := (tc_ : _ ∧ _)); try (obtain ⟨td_, te_⟩ := (td_ : _ ∧ _))) | intro (ops_ : Array Oper) ri_ | intro (b_ : Bool) hb_ | (intro v_ h_; try (have o_ := FrzK.one h_)) | intro (v_ : Value) | intro (b_ : Nat) | (refine ⟨fun hc => ?_, fun hc => ?_⟩ <;> try (exfalso; omega)) | refine ⟨?_, ?_⟩ | intro _ | skip)
  | (refine Is_DQ ?_; first | (apply DQ_m rfl rfl rfl rfl; focus (intro wq_ Oq_ rq_ mm; (repeat (first | (refine G_nil ?_; exact X_done rfl (List.Sublist.refl _)) | refine V_op ?_)); done)) | (apply DQ_k rfl rfl rfl rfl; intro wq_ Oq_ rq_ mm) | (apply DQ_y rfl rfl rfl rfl; intro wq_ Oq_ rq_ mm)))
    · refine ret_ rfl (by repeat (first | exact ResAll.nil | (apply ResAll.cons; first | exact .tmp rfl | exact .cell rfl rfl | exact .one rfl))) fun w' h' => ?_
      exact .mk (by rw [decide_eq_false (p := l = l') (fun he => by subst he; omega)]) h'
    · exact At_roundS (k + 1) ⟨by omega, (same_step (by omega) (by omega) he).2 (BitVec.eq_of_toNat_eq (by omega))⟩ (by omega) (by repeat (first | exact trivial | refine And.intro rfl ?_)) (by repeat (first | exact trivial | refine And.intro rfl ?_))
    · refine ret_ rfl (by repeat (first | exact ResAll.nil | (apply ResAll.cons; first | exact .tmp rfl | exact .cell rfl rfl | exact .one rfl))) fun w' h' => ?_
      have e1 : k = l.length := by omega
      rw [List.take_of_length_le (by omega), List.take_of_length_le (by omega)] at he
      exact .mk (by rw [decide_eq_true he]) h'
theorem ref_Ints (w : World) (v v' : Value) (l l' : List Int) [h : RdOld w [] v l] [h' : RdOld w [] v' l'] : Calls Try.prog 23 #[v, v'] w (Is w (.bool (decide (l = l')))) := by
  have hl := h.rd.len_le
  have hl' := h'.rd.len_le
  refine enter (N := 26) (args := [v, v']) Try.func23 rfl rfl rfl (St.refl w) ?_
  repeat' (first
  | refine G_nilC ?_
  | refine G_nilN ?_
  | refine G_nilH ?_
  | (refine G_nil ?_; try clear ri_; try clear ops_)
  | (refine V_op ?_; first | exact True.intro | (intro v_ h_ w_ r_ t_; try (obtain ⟨ta_, tb_⟩ := (t_ : _ ∧ _)); try (obtain ⟨tb_, tc_⟩ := (tb_ : _ ∧ _)); try (obtain ⟨tc_, td_⟩ := (tc_ : _ ∧ _)); try (obtain ⟨td_, te_⟩ := (td_ : _ ∧ _))) | intro (ops_ : Array Oper) ri_ | intro (b_ : Bool) hb_ | (intro v_ h_; try (have o_ := FrzK.one h_)) | intro (v_ : Value) | intro (b_ : Nat) | (refine ⟨fun hc => ?_, fun hc => ?_⟩ <;> try (exfalso; omega)) | refine ⟨?_, ?_⟩ | intro _ | skip)
  | (refine Is_DQ ?_; first | (apply DQ_m rfl rfl rfl rfl; focus (intro wq_ Oq_ rq_ mm; (repeat (first | (refine G_nil ?_; exact X_done rfl (List.Sublist.refl _)) | refine V_op ?_)); done)) | (apply DQ_k rfl rfl rfl rfl; intro wq_ Oq_ rq_ mm) | (apply DQ_y rfl rfl rfl rfl; intro wq_ Oq_ rq_ mm)))
  · refine ret_ rfl (by repeat (first | exact ResAll.nil | (apply ResAll.cons; first | exact .tmp rfl | exact .cell rfl rfl | exact .one rfl))) fun w' h' => ?_
    exact .mk (by rw [decide_eq_false (p := l = l') (fun he => by subst he; omega)]) h'
  · refine GC_loopS (X := Nat) (fun k => k ≤ l.length ∧ l.take k = l'.take k) (fun k s => (5, I k) :: s) (fun _ r => r) (fun k => l.length - k) 0 ⟨Nat.zero_le _, by simp⟩ (by repeat (first | exact trivial | refine And.intro rfl ?_)) ?_
    rintro k ⟨hk, he⟩
    repeat' (first
  | refine G_nilC ?_
  | refine G_nilN ?_
  | refine G_nilH ?_
  | (refine G_nil ?_; try clear ri_; try clear ops_)
  | (refine V_op ?_; first | exact True.intro | (intro v_ h_ w_ r_ t_; try (obtain ⟨ta_, tb_⟩ := (t_ : _ ∧ _)); try (obtain ⟨tb_, tc_⟩ := (tb_ : _ ∧ _)); try (obtain ⟨tc_, td_⟩ := (tc_ : _ ∧ _)); try (obtain ⟨td_, te_⟩ := (td_ : _ ∧ _))) | intro (ops_ : Array Oper) ri_ | intro (b_ : Bool) hb_ | (intro v_ h_; try (have o_ := FrzK.one h_)) | intro (v_ : Value) | intro (b_ : Nat) | (refine ⟨fun hc => ?_, fun hc => ?_⟩ <;> try (exfalso; omega)) | refine ⟨?_, ?_⟩ | intro _ | skip)
  | (refine Is_DQ ?_; first | (apply DQ_m rfl rfl rfl rfl; focus (intro wq_ Oq_ rq_ mm; (repeat (first | (refine G_nil ?_; exact X_done rfl (List.Sublist.refl _)) | refine V_op ?_)); done)) | (apply DQ_k rfl rfl rfl rfl; intro wq_ Oq_ rq_ mm) | (apply DQ_y rfl rfl rfl rfl; intro wq_ Oq_ rq_ mm)))
    · refine ret_ rfl (by repeat (first | exact ResAll.nil | (apply ResAll.cons; first | exact .tmp rfl | exact .cell rfl rfl | exact .one rfl))) fun w' h' => ?_
      exact .mk (by rw [decide_eq_false (p := l = l') (fun he => by subst he; omega)]) h'
    · exact At_roundS (k + 1) ⟨by omega, (same_step (by omega) (by omega) he).2 (by omega)⟩ (by omega) (by repeat (first | exact trivial | refine And.intro rfl ?_)) (by repeat (first | exact trivial | refine And.intro rfl ?_))
    · refine ret_ rfl (by repeat (first | exact ResAll.nil | (apply ResAll.cons; first | exact .tmp rfl | exact .cell rfl rfl | exact .one rfl))) fun w' h' => ?_
      have e1 : k = l.length := by omega
      rw [List.take_of_length_le (by omega), List.take_of_length_le (by omega)] at he
      exact .mk (by rw [decide_eq_true he]) h'
section
variable {w0 : World} {O : List Nat} {m : List As}
instance {v v' : Value} {l l' : List (BitVec 8)} [h : RdR w0 O m v l] [h' : RdR w0 O m v' l'] : CallV Try.prog w0 O m 24 [v, v'] True (.bool (decide (l = l'))) :=
  ⟨fun _ w hw => @ref_Same w v v' l l' (RdOld.of (h.rd w hw)) (RdOld.of (h'.rd w hw))⟩
instance {v v' : Value} {l l' : List Int} [h : RdR w0 O m v l] [h' : RdR w0 O m v' l'] : CallV Try.prog w0 O m 23 [v, v'] True (.bool (decide (l = l'))) :=
  ⟨fun _ w hw => @ref_Ints w v v' l l' (RdOld.of (h.rd w hw)) (RdOld.of (h'.rd w hw))⟩
end
end Go.Proofs.Ytnncjfphdcfimaa
