/- Container: identity, size, the whole file. -/
import Derived.Test.YtdngfkmigpnbnaaCnb
import Derived.Test.YtdngfkmigpnbnaaBpl
set_option linter.unusedVariables false
set_option linter.unusedSimpArgs false
set_option maxRecDepth 100000
set_option maxHeartbeats 4000000
namespace Go.Proofs.Ytdngfkmigpnbnaa
open Go.RowKit
attribute [local irreducible] G GC At wpL DR XPost CPost Cut GA GAR GAX GAt NxA GH GHR NxH

theorem lib_Clone (w : World) (v : Value) (l : List (BitVec 8)) [h : RdOld w [] v l] (hl : l.length ≤ 1000000) : Calls Try.prog 70 #[v] w (Ret w [] (fun _ : Value => True) (fun r => r) (fun r => [row r 5 l])) := by
  have hlen := h.rd.len_le
  refine enter (N := 8) (args := [v]) Try.func70 rfl rfl rfl (St.refl w) ?_
  repeat' (first
  | refine G_nilC ?_
  | refine G_nilN ?_
  | refine G_nilH ?_
  | (refine G_nil ?_; try clear ri_; try clear ops_)
  | (refine V_opW ?_; first | exact True.intro | (intro v_ h_ w_ r_ t_; try (obtain ⟨ta_, tb_⟩ := (t_ : _ ∧ _)); try (obtain ⟨tb_, tc_⟩ := (tb_ : _ ∧ _)); try (obtain ⟨tc_, td_⟩ := (tc_ : _ ∧ _)); try (obtain ⟨td_, te_⟩ := (td_ : _ ∧ _))) | intro (ops_ : Array Oper) ri_ | intro (b_ : Bool) hb_ | (intro v_ h_; try (have o_ := FrzK.one h_)) | intro (v_ : Value) | intro (b_ : Nat) | (refine ⟨fun hc => ?_, fun hc => ?_⟩ <;> try (exfalso; omega)) | refine ⟨?_, ?_⟩ | intro _ | skip)
  | (refine Is_DQ ?_; first | (apply DQ_m rfl rfl rfl rfl; focus (intro wq_ Oq_ rq_ mm; (repeat (first | (refine G_nil ?_; exact X_done rfl (List.Sublist.refl _)) | refine V_opW ?_)); done)) | (apply DQ_k rfl rfl rfl rfl; intro wq_ Oq_ rq_ mm) | (apply DQ_y rfl rfl rfl rfl; intro wq_ Oq_ rq_ mm)))
  · have := hb_ hc
    subst this
    refine ret_ rfl (by repeat (first | exact ResAll.nil | (apply ResAll.cons; first | exact .tmp rfl | exact .cell rfl rfl | exact .one rfl))) fun w' h' => ?_
    exact .mk (.slice none 0 0) trivial rfl h'
  · refine ret_ rfl (by repeat (first | exact ResAll.nil | (apply ResAll.cons; first | exact .tmp rfl | exact .cell rfl rfl | exact .one rfl))) fun w' h' => ?_
    exact .mk _ trivial rfl h'
instance {w0 : World} {O : List Nat} {m : List As} {v : Value} {l : List (BitVec 8)} [h : RdR w0 O m v l] : CallR Try.prog w0 O m 70 [v] (l.length ≤ 1000000) (fun _ : Value => True) (fun r => r) (fun r => row r 5 l :: m) :=
  .new1 (M := fun r => row r _ l) fun hs w hw => @lib_Clone w v l (RdOld.of (h.rd w hw)) hs

theorem lib_Equal (w : World) (v v' : Value) (l l' : List (BitVec 8)) [h : RdOld w [] v l] [h' : RdOld w [] v' l'] : Calls Try.prog 71 #[v, v'] w (Is w (.bool (decide (l = l')))) := by
  have hl := h.rd.len_le
  have hl' := h'.rd.len_le
  refine enter (N := 26) (args := [v, v']) Try.func71 rfl rfl rfl (St.refl w) ?_
  repeat' (first
  | refine G_nilC ?_
  | refine G_nilN ?_
  | refine G_nilH ?_
  | (refine G_nil ?_; try clear ri_; try clear ops_)
  | (refine V_op ?_; first | exact True.intro | (intro v_ h_ w_ r_ t_; try (obtain ⟨ta_, tb_⟩ := (t_ : _ ∧ _)); try (obtain ⟨tb_, tc_⟩ := (tb_ : _ ∧ _)); try (obtain ⟨tc_, td_⟩ := (tc_ : _ ∧ _)); try (obtain ⟨td_, te_⟩ := (td_ : _ ∧ _))) | intro (ops_ : Array Oper) ri_ | intro (b_ : Bool) hb_ | (intro v_ h_; try (have o_ := FrzK.one h_)) | intro (v_ : Value) | intro (b_ : Nat) | (refine ⟨fun hc => ?_, fun hc => ?_⟩ <;> try (exfalso; omega)) | refine ⟨?_, ?_⟩ | intro _ | skip)
  | (refine Is_DQ ?_; first | (apply DQ_m rfl rfl rfl rfl; focus (intro wq_ Oq_ rq_ mm; (repeat (first | (refine G_nil ?_; exact X_done rfl (List.Sublist.refl _)) | refine V_op ?_)); done)) | (apply DQ_k rfl rfl rfl rfl; intro wq_ Oq_ rq_ mm) | (apply DQ_y rfl rfl rfl rfl; intro wq_ Oq_ rq_ mm)))
  · refine ret_ rfl (by repeat (first | exact ResAll.nil | (apply ResAll.cons; first | exact .tmp rfl | exact .cell rfl rfl | exact .one rfl))) fun w' h' => ?_
    exact .mk (by rw [decide_eq_false (p := l = l') (fun he => by subst he; omega)]) h'
  · refine GC_loopS (X := Nat) (fun k => k ≤ l.length ∧ l.take k = l'.take k) (fun k s => (13, I k) :: s) (fun _ r => r) (fun k => l.length - k) 0 ⟨Nat.zero_le _, by simp⟩ (by repeat (first | exact trivial | refine And.intro rfl ?_)) ?_
    rintro k ⟨hk, he⟩
    repeat' (first
  | refine G_nilC ?_
  | refine G_nilN ?_
  | refine G_nilH ?_
  | (refine G_nil ?_; try clear ri_; try clear ops_)
  | (refine V_op ?_; first | exact True.intro | (intro v_ h_ w_ r_ t_; try (obtain ⟨ta_, tb_⟩ := (t_ : _ ∧ _)); try (obtain ⟨tb_, tc_⟩ := (tb_ : _ ∧ _)); try (obtain ⟨tc_, td_⟩ := (tc_ : _ ∧ _)); try (obtain ⟨td_, te_⟩ := (td_ : _ ∧ _))) | intro (ops_ : Array Oper) ri_ | intro (b_ : Bool) hb_ | (intro v_ h_; try (have o_ := FrzK.one h_)) | intro (v_ : Value) | intro (b_ : Nat) | (refine ⟨fun hc => ?_, fun hc => ?_⟩ <;> try (exfalso; omega)) | refine ⟨?_, ?_⟩ | intro _ | skip)
  | (refine Is_DQ ?_; first | (apply DQ_m rfl rfl rfl rfl; focus (intro wq_ Oq_ rq_ mm; (repeat (first | (refine G_nil ?_; exact X_done rfl (List.Sublist.refl _)) | refine V_op ?_)); done)) | (apply DQ_k rfl rfl rfl rfl; intro wq_ Oq_ rq_ mm) | (apply DQ_y rfl rfl rfl rfl; intro wq_ Oq_ rq_ mm)))
    · refine ret_ rfl (by repeat (first | exact ResAll.nil | (apply ResAll.cons; first | exact .tmp rfl | exact .cell rfl rfl | exact .one rfl))) fun w' h' => ?_
      exact .mk (by rw [decide_eq_false (p := l = l') (fun he => by subst he; omega)]) h'
    · exact At_roundS (k + 1) ⟨by omega, (same_step (by omega) (by omega) he).2 (BitVec.eq_of_toNat_eq (by omega))⟩ (by omega) (by repeat (first | exact trivial | refine And.intro rfl ?_)) (by repeat (first | exact trivial | refine And.intro rfl ?_))
    · refine ret_ rfl (by repeat (first | exact ResAll.nil | (apply ResAll.cons; first | exact .tmp rfl | exact .cell rfl rfl | exact .one rfl))) fun w' h' => ?_
      have e1 : k = l.length := by omega
      rw [List.take_of_length_le (by omega), List.take_of_length_le (by omega)] at he
      exact .mk (by rw [decide_eq_true he]) h'
instance {w0 : World} {O : List Nat} {m : List As} {v v' : Value} {l l' : List (BitVec 8)} [h : RdR w0 O m v l] [h' : RdR w0 O m v' l'] : CallV Try.prog w0 O m 71 [v, v'] True (.bool (decide (l = l'))) :=
  ⟨fun _ w hw => @lib_Equal w v v' l l' (RdOld.of (h.rd w hw)) (RdOld.of (h'.rd w hw))⟩


section
variable {w0 : World} {O : List Nat} {m mk : List As} {b : Nat} {va u : Value} {xs : List (BitVec 8)} {e : Int}
instance {x : BitVec 8} {t : List (BitVec 8)} [h : BoxR b m (.cells #[va, u] 82) mk] [hu : RdOld w0 O u (x :: t)] : CallR Try.prog w0 O m 65 [.pointer (some ⟨b, 0, none⟩)] (1 ≤ x.toNat ∧ x.toNat ≤ 9) (ι := OldV w0 O t) (fun _ => True) (fun _ => I x.toNat) (fun i => .box b (.cells #[va, i.v] 82) :: mk) :=
  ⟨fun hs w hw => run_kind w0 O mk b va u x t hs w (h.ent.st hw)⟩
instance {x : BitVec 8} {t : List (BitVec 8)} [h : BoxR b m (.cells #[va, u] 82) mk] [hu : RdOld w0 O u (x :: t)] : CallX Try.prog w0 O m 65 [.pointer (some ⟨b, 0, none⟩)] (¬ (1 ≤ x.toNat ∧ x.toNat ≤ 9)) (trbl 8) mk :=
  ⟨fun hs w hw => run_kindX w0 O mk b va u x t hs w (h.ent.st hw)⟩
instance [h : BoxR b m (.cells #[va, u] 82) mk] [hu : RdOld w0 O u ([] : List (BitVec 8))] : CallX Try.prog w0 O m 65 [.pointer (some ⟨b, 0, none⟩)] True (trbl 7) mk :=
  ⟨fun hs w hw => run_kindN w0 O mk b va u w (h.ent.st hw)⟩
end
theorem run_id (w0 : World) (O : List Nat) (m : List As) (b : Nat) (va u : Value) (xs : List (BitVec 8)) (l : List Int) (k : Nat) [h : RdOld w0 O u xs] [hu : Eqn (unpB xs) (.ok (l, k))] (hl : l.length ≤ 40) (w : World) (hw : St w0 O (.box b (.cells #[va, u] 82) :: m) w) :
    Calls Try.prog 66 #[.pointer (some ⟨b, 0, none⟩)] w (fun y w' => ∃ q : Value × OldV w0 O (xs.drop k), True ∧ y = .returned q.1 ∧ St w0 O (row q.1 3 l :: .box b (.cells #[va, q.2.v] 82) :: m) w') := by
  have hun : (unL (Except.ok (l, k))).length = l.length := rfl
  refine enterF (N := 30) (args := [.pointer (some ⟨b, 0, none⟩)]) Try.func66 rfl rfl rfl hw ?_
  repeat' (first
  | refine G_nilC ?_
  | refine G_nilN ?_
  | refine G_nilH ?_
  | (refine G_nil ?_; try clear ri_; try clear ops_)
  | (refine V_op ?_; first | exact True.intro | (intro v_ h_ w_ r_ t_; try (obtain ⟨ta_, tb_⟩ := (t_ : _ ∧ _)); try (obtain ⟨tb_, tc_⟩ := (tb_ : _ ∧ _)); try (obtain ⟨tc_, td_⟩ := (tc_ : _ ∧ _)); try (obtain ⟨td_, te_⟩ := (td_ : _ ∧ _))) | intro (ops_ : Array Oper) ri_ | intro (b_ : Bool) hb_ | (intro v_ h_; try (have o_ := FrzK.one h_)) | intro (v_ : Value) | intro (b_ : Nat) | (refine ⟨fun hc => ?_, fun hc => ?_⟩ <;> try (exfalso; omega)) | refine ⟨?_, ?_⟩ | intro _ | skip)
  | (refine Is_DQ ?_; first | (apply DQ_m rfl rfl rfl rfl; focus (intro wq_ Oq_ rq_ mm; (repeat (first | (refine G_nil ?_; exact X_done rfl (List.Sublist.refl _)) | refine V_op ?_)); done)) | (apply DQ_k rfl rfl rfl rfl; intro wq_ Oq_ rq_ mm) | (apply DQ_y rfl rfl rfl rfl; intro wq_ Oq_ rq_ mm)))
  refine ret_ rfl (by repeat (first | exact ResAll.nil | (apply ResAll.cons; first | exact .tmp rfl | exact .cell rfl rfl | exact .one rfl))) fun w' h' => ?_
  exact ⟨(v_, ⟨_, rdOld_restV h hu.eq⟩), trivial, rfl, h'⟩
theorem run_idX (w0 : World) (O : List Nat) (m : List As) (b : Nat) (va u : Value) (xs : List (BitVec 8)) (l : List Int) (k : Nat) [h : RdOld w0 O u xs] [hu : Eqn (unpB xs) (.ok (l, k))] (hl : 40 < l.length) (w : World) (hw : St w0 O (.box b (.cells #[va, u] 82) :: m) w) :
    Calls Try.prog 66 #[.pointer (some ⟨b, 0, none⟩)] w (fun y w' => y = .panicked (chn (trbl 8)) ∧ St w0 O m w') := by
  have hun : (unL (Except.ok (l, k))).length = l.length := rfl
  refine enterF (N := 30) (args := [.pointer (some ⟨b, 0, none⟩)]) Try.func66 rfl rfl rfl hw ?_
  repeat' (first
  | refine G_nilC ?_
  | refine G_nilN ?_
  | refine G_nilH ?_
  | (refine G_nil ?_; try clear ri_; try clear ops_)
  | (refine V_op ?_; first | exact True.intro | (intro v_ h_ w_ r_ t_; try (obtain ⟨ta_, tb_⟩ := (t_ : _ ∧ _)); try (obtain ⟨tb_, tc_⟩ := (tb_ : _ ∧ _)); try (obtain ⟨tc_, td_⟩ := (tc_ : _ ∧ _)); try (obtain ⟨td_, te_⟩ := (td_ : _ ∧ _))) | intro (ops_ : Array Oper) ri_ | intro (b_ : Bool) hb_ | (intro v_ h_; try (have o_ := FrzK.one h_)) | intro (v_ : Value) | intro (b_ : Nat) | (refine ⟨fun hc => ?_, fun hc => ?_⟩ <;> try (exfalso; omega)) | refine ⟨?_, ?_⟩ | intro _ | skip)
  | (refine Is_DQ ?_; first | (apply DQ_m rfl rfl rfl rfl; focus (intro wq_ Oq_ rq_ mm; (repeat (first | (refine G_nil ?_; exact X_done rfl (List.Sublist.refl _)) | refine V_op ?_)); done)) | (apply DQ_k rfl rfl rfl rfl; intro wq_ Oq_ rq_ mm) | (apply DQ_y rfl rfl rfl rfl; intro wq_ Oq_ rq_ mm)))
  refine panic_ fun w' h' => ?_
  exact ⟨rfl, SubM.ent.st h'⟩
theorem run_idE (w0 : World) (O : List Nat) (m : List As) (b : Nat) (va u : Value) (xs : List (BitVec 8)) (e : Int) [h : RdOld w0 O u xs] [hu : Eqn (unpB xs) (.error e)] (w : World) (hw : St w0 O (.box b (.cells #[va, u] 82) :: m) w) :
    Calls Try.prog 66 #[.pointer (some ⟨b, 0, none⟩)] w (fun y w' => y = .panicked (chn (trbl (rotE e))) ∧ St w0 O m w') := by
  have he := unp_err hu.eq
  refine enterF (N := 30) (args := [.pointer (some ⟨b, 0, none⟩)]) Try.func66 rfl rfl rfl hw ?_
  repeat' (first
  | refine G_nilC ?_
  | refine G_nilN ?_
  | refine G_nilH ?_
  | (refine G_nil ?_; try clear ri_; try clear ops_)
  | (refine V_op ?_; first | exact True.intro | (intro v_ h_ w_ r_ t_; try (obtain ⟨ta_, tb_⟩ := (t_ : _ ∧ _)); try (obtain ⟨tb_, tc_⟩ := (tb_ : _ ∧ _)); try (obtain ⟨tc_, td_⟩ := (tc_ : _ ∧ _)); try (obtain ⟨td_, te_⟩ := (td_ : _ ∧ _))) | intro (ops_ : Array Oper) ri_ | intro (b_ : Bool) hb_ | (intro v_ h_; try (have o_ := FrzK.one h_)) | intro (v_ : Value) | intro (b_ : Nat) | (refine ⟨fun hc => ?_, fun hc => ?_⟩ <;> try (exfalso; omega)) | refine ⟨?_, ?_⟩ | intro _ | skip)
  | (refine Is_DQ ?_; first | (apply DQ_m rfl rfl rfl rfl; focus (intro wq_ Oq_ rq_ mm; (repeat (first | (refine G_nil ?_; exact X_done rfl (List.Sublist.refl _)) | refine V_op ?_)); done)) | (apply DQ_k rfl rfl rfl rfl; intro wq_ Oq_ rq_ mm) | (apply DQ_y rfl rfl rfl rfl; intro wq_ Oq_ rq_ mm)))
  refine panic_ fun w' h' => ?_
  exact ⟨rfl, SubM.ent.st h'⟩
theorem run_size (w0 : World) (O : List Nat) (m : List As) (b : Nat) (va u : Value) (xs : List (BitVec 8)) (n : BitVec 64) (k : Nat) [h : RdOld w0 O u xs] [hu : Eqn (rdB xs) (.ok (n, k))] (hl : n.toNat ≤ 65536) (w : World) (hw : St w0 O (.box b (.cells #[va, u] 82) :: m) w) :
    Calls Try.prog 67 #[.pointer (some ⟨b, 0, none⟩)] w (fun y w' => ∃ q : OldV w0 O (xs.drop k), True ∧ y = .returned (I n.toNat) ∧ St w0 O (.box b (.cells #[va, q.v] 82) :: m) w') := by
  have hi : n.toInt = n.toNat := by rw [BitVec.toInt_eq_toNat_cond, if_pos (by omega)]
  refine enterF (N := 30) (args := [.pointer (some ⟨b, 0, none⟩)]) Try.func67 rfl rfl rfl hw ?_
  repeat' (first
  | refine G_nilC ?_
  | refine G_nilN ?_
  | refine G_nilH ?_
  | (refine G_nil ?_; try clear ri_; try clear ops_)
  | (refine V_op ?_; first | exact True.intro | (intro v_ h_ w_ r_ t_; try (obtain ⟨ta_, tb_⟩ := (t_ : _ ∧ _)); try (obtain ⟨tb_, tc_⟩ := (tb_ : _ ∧ _)); try (obtain ⟨tc_, td_⟩ := (tc_ : _ ∧ _)); try (obtain ⟨td_, te_⟩ := (td_ : _ ∧ _))) | intro (ops_ : Array Oper) ri_ | intro (b_ : Bool) hb_ | (intro v_ h_; try (have o_ := FrzK.one h_)) | intro (v_ : Value) | intro (b_ : Nat) | (refine ⟨fun hc => ?_, fun hc => ?_⟩ <;> try (exfalso; omega)) | refine ⟨?_, ?_⟩ | intro _ | skip)
  | (refine Is_DQ ?_; first | (apply DQ_m rfl rfl rfl rfl; focus (intro wq_ Oq_ rq_ mm; (repeat (first | (refine G_nil ?_; exact X_done rfl (List.Sublist.refl _)) | refine V_op ?_)); done)) | (apply DQ_k rfl rfl rfl rfl; intro wq_ Oq_ rq_ mm) | (apply DQ_y rfl rfl rfl rfl; intro wq_ Oq_ rq_ mm)))
  refine ret_ rfl (by repeat (first | exact ResAll.nil | (apply ResAll.cons; first | exact .tmp rfl | exact .cell rfl rfl | exact .one rfl))) fun w' h' => ?_
  exact ⟨⟨_, h.rest (rdB_le hu.eq).2⟩, trivial, by rw [← hi], SubM.ent.st h'⟩
theorem run_sizeX (w0 : World) (O : List Nat) (m : List As) (b : Nat) (va u : Value) (xs : List (BitVec 8)) (n : BitVec 64) (k : Nat) [h : RdOld w0 O u xs] [hu : Eqn (rdB xs) (.ok (n, k))] (hl : 65536 < n.toNat) (w : World) (hw : St w0 O (.box b (.cells #[va, u] 82) :: m) w) :
    Calls Try.prog 67 #[.pointer (some ⟨b, 0, none⟩)] w (fun y w' => y = .panicked (chn (trbl 8)) ∧ St w0 O m w') := by
  refine enterF (N := 30) (args := [.pointer (some ⟨b, 0, none⟩)]) Try.func67 rfl rfl rfl hw ?_
  repeat' (first
  | refine G_nilC ?_
  | refine G_nilN ?_
  | refine G_nilH ?_
  | (refine G_nil ?_; try clear ri_; try clear ops_)
  | (refine V_op ?_; first | exact True.intro | (intro v_ h_ w_ r_ t_; try (obtain ⟨ta_, tb_⟩ := (t_ : _ ∧ _)); try (obtain ⟨tb_, tc_⟩ := (tb_ : _ ∧ _)); try (obtain ⟨tc_, td_⟩ := (tc_ : _ ∧ _)); try (obtain ⟨td_, te_⟩ := (td_ : _ ∧ _))) | intro (ops_ : Array Oper) ri_ | intro (b_ : Bool) hb_ | (intro v_ h_; try (have o_ := FrzK.one h_)) | intro (v_ : Value) | intro (b_ : Nat) | (refine ⟨fun hc => ?_, fun hc => ?_⟩ <;> try (exfalso; omega)) | refine ⟨?_, ?_⟩ | intro _ | skip)
  | (refine Is_DQ ?_; first | (apply DQ_m rfl rfl rfl rfl; focus (intro wq_ Oq_ rq_ mm; (repeat (first | (refine G_nil ?_; exact X_done rfl (List.Sublist.refl _)) | refine V_op ?_)); done)) | (apply DQ_k rfl rfl rfl rfl; intro wq_ Oq_ rq_ mm) | (apply DQ_y rfl rfl rfl rfl; intro wq_ Oq_ rq_ mm)))
  refine panic_ fun w' h' => ?_
  exact ⟨rfl, SubM.ent.st h'⟩
theorem run_sizeE (w0 : World) (O : List Nat) (m : List As) (b : Nat) (va u : Value) (xs : List (BitVec 8)) (e : Int) [h : RdOld w0 O u xs] [hu : Eqn (rdB xs) (.error e)] (w : World) (hw : St w0 O (.box b (.cells #[va, u] 82) :: m) w) :
    Calls Try.prog 67 #[.pointer (some ⟨b, 0, none⟩)] w (fun y w' => y = .panicked (chn (trbl (rotE e))) ∧ St w0 O m w') := by
  have he := rd_err hu.eq
  refine enterF (N := 30) (args := [.pointer (some ⟨b, 0, none⟩)]) Try.func67 rfl rfl rfl hw ?_
  repeat' (first
  | refine G_nilC ?_
  | refine G_nilN ?_
  | refine G_nilH ?_
  | (refine G_nil ?_; try clear ri_; try clear ops_)
  | (refine V_op ?_; first | exact True.intro | (intro v_ h_ w_ r_ t_; try (obtain ⟨ta_, tb_⟩ := (t_ : _ ∧ _)); try (obtain ⟨tb_, tc_⟩ := (tb_ : _ ∧ _)); try (obtain ⟨tc_, td_⟩ := (tc_ : _ ∧ _)); try (obtain ⟨td_, te_⟩ := (td_ : _ ∧ _))) | intro (ops_ : Array Oper) ri_ | intro (b_ : Bool) hb_ | (intro v_ h_; try (have o_ := FrzK.one h_)) | intro (v_ : Value) | intro (b_ : Nat) | (refine ⟨fun hc => ?_, fun hc => ?_⟩ <;> try (exfalso; omega)) | refine ⟨?_, ?_⟩ | intro _ | skip)
  | (refine Is_DQ ?_; first | (apply DQ_m rfl rfl rfl rfl; focus (intro wq_ Oq_ rq_ mm; (repeat (first | (refine G_nil ?_; exact X_done rfl (List.Sublist.refl _)) | refine V_op ?_)); done)) | (apply DQ_k rfl rfl rfl rfl; intro wq_ Oq_ rq_ mm) | (apply DQ_y rfl rfl rfl rfl; intro wq_ Oq_ rq_ mm)))
  refine panic_ fun w' h' => ?_
  exact ⟨rfl, SubM.ent.st h'⟩
section
variable {w0 : World} {O : List Nat} {m mk : List As} {b : Nat} {va u : Value} {xs : List (BitVec 8)} {l : List Int} {n : BitVec 64} {k : Nat} {e : Int}
instance [hb : BoxR b m (.cells #[va, u] 82) mk] [h : RdOld w0 O u xs] [hu : Eqn (unpB xs) (.ok (l, k))] : CallR Try.prog w0 O m 66 [.pointer (some ⟨b, 0, none⟩)] (l.length ≤ 40) (ι := Value × OldV w0 O (xs.drop k)) (fun _ => True) (fun i => i.1) (fun i => row i.1 3 l :: .box b (.cells #[va, i.2.v] 82) :: mk) :=
  ⟨fun hs w hw => run_id w0 O mk b va u xs l k hs w (hb.ent.st hw)⟩
instance [hb : BoxR b m (.cells #[va, u] 82) mk] [h : RdOld w0 O u xs] [hu : Eqn (unpB xs) (.ok (l, k))] : CallX Try.prog w0 O m 66 [.pointer (some ⟨b, 0, none⟩)] (40 < l.length) (trbl 8) mk :=
  ⟨fun hs w hw => run_idX w0 O mk b va u xs l k hs w (hb.ent.st hw)⟩
instance [hb : BoxR b m (.cells #[va, u] 82) mk] [h : RdOld w0 O u xs] [hu : Eqn (unpB xs) (.error e)] : CallX Try.prog w0 O m 66 [.pointer (some ⟨b, 0, none⟩)] True (trbl (rotE e)) mk :=
  ⟨fun hs w hw => run_idE w0 O mk b va u xs e w (hb.ent.st hw)⟩
instance [hb : BoxR b m (.cells #[va, u] 82) mk] [h : RdOld w0 O u xs] [hu : Eqn (rdB xs) (.ok (n, k))] : CallR Try.prog w0 O m 67 [.pointer (some ⟨b, 0, none⟩)] (n.toNat ≤ 65536) (ι := OldV w0 O (xs.drop k)) (fun _ => True) (fun _ => I n.toNat) (fun i => .box b (.cells #[va, i.v] 82) :: mk) :=
  ⟨fun hs w hw => run_size w0 O mk b va u xs n k hs w (hb.ent.st hw)⟩
instance [hb : BoxR b m (.cells #[va, u] 82) mk] [h : RdOld w0 O u xs] [hu : Eqn (rdB xs) (.ok (n, k))] : CallX Try.prog w0 O m 67 [.pointer (some ⟨b, 0, none⟩)] (65536 < n.toNat) (trbl 8) mk :=
  ⟨fun hs w hw => run_sizeX w0 O mk b va u xs n k hs w (hb.ent.st hw)⟩
instance [hb : BoxR b m (.cells #[va, u] 82) mk] [h : RdOld w0 O u xs] [hu : Eqn (rdB xs) (.error e)] : CallX Try.prog w0 O m 67 [.pointer (some ⟨b, 0, none⟩)] True (trbl (rotE e)) mk :=
  ⟨fun hs w hw => run_sizeE w0 O mk b va u xs e w (hb.ent.st hw)⟩
end
end Go.Proofs.Ytdngfkmigpnbnaa
