/- Container: first, Open. -/
import Derived.Test.YtdngfkmigpnbnaaCnd
set_option linter.unusedVariables false
set_option linter.unusedSimpArgs false
set_option maxRecDepth 100000
set_option maxHeartbeats 4000000
namespace Go.Proofs.Ytdngfkmigpnbnaa
open Go.RowKit
attribute [local irreducible] G GC At wpL DR XPost CPost Cut GA GAR GAX GAt NxA GH GHR NxH

instance {w0 : World} {O : List Nat} {m mk : List As} {b : Nat} {va : Value} {bs : List (BitVec 8)} {f : Fl} {n : Nat} [hb : BoxR b m (.cells #[va, va] 82) mk] [h : RdOld w0 O va bs] [hr : Eqn (fiB bs) (.ok (f, n))] :
    CallR Try.prog w0 O m 50 [.pointer (some ⟨b, 0, none⟩)] (bs.length ≤ 900000) (ι := Value × OldV w0 O f.da × OldV w0 O (bs.drop n)) (fun _ => True) (fun i => .agg #[I f.k, i.1, i.2.1.v]) (fun i => row i.1 3 f.id :: .box b (.cells #[va, i.2.2.v] 82) :: mk) :=
  ⟨fun hs w hw => (run_file w0 O mk b va bs hs _ hr.eq w (hb.ent.st hw)).mono (by
    rintro y w' ⟨i, h1, h2⟩
    exact ⟨i, trivial, h1, h2⟩)⟩
instance {w0 : World} {O : List Nat} {m mk : List As} {b : Nat} {va : Value} {bs : List (BitVec 8)} {e : Int} [hb : BoxR b m (.cells #[va, va] 82) mk] [h : RdOld w0 O va bs] [hr : Eqn (fiB bs) (.error e)] :
    CallX Try.prog w0 O m 50 [.pointer (some ⟨b, 0, none⟩)] (bs.length ≤ 900000) (trbl e) mk :=
  ⟨fun hs w hw => run_file w0 O mk b va bs hs _ hr.eq w (hb.ent.st hw)⟩
theorem def_nil (w0 : World) (O : List Nat) (m : List As) (b2 b3 b4 : Nat) : DefC Try.prog 49 [.pointer (some ⟨b2, 0, none⟩), .pointer (some ⟨b3, 0, none⟩), .pointer (some ⟨b4, 0, none⟩)] w0 O m .returning .returning m := fun w hw => by
  refine enterR (m' := []) (N := 15) (args := [.pointer (some ⟨b2, 0, none⟩), .pointer (some ⟨b3, 0, none⟩), .pointer (some ⟨b4, 0, none⟩)]) Try.func49 rfl rfl rfl rfl hw ?_
  show GC _ _ _ _ _ _ _ ((_, .nilIface) :: _) _ _
  repeat' (first
  | refine G_nilC ?_
  | refine G_nilN ?_
  | refine G_nilH ?_
  | (refine G_nil ?_; try clear ri_; try clear ops_)
  | (refine V_op ?_; first | exact True.intro | (intro v_ h_ w_ r_ t_; try (obtain ⟨ta_, tb_⟩ := (t_ : _ ∧ _)); try (obtain ⟨tb_, tc_⟩ := (tb_ : _ ∧ _)); try (obtain ⟨tc_, td_⟩ := (tc_ : _ ∧ _)); try (obtain ⟨td_, te_⟩ := (td_ : _ ∧ _))) | intro (ops_ : Array Oper) ri_ | intro (b_ : Bool) hb_ | (intro v_ h_; try (have o_ := FrzK.one h_)) | intro (v_ : Value) | intro (b_ : Nat) | (refine ⟨fun hc => ?_, fun hc => ?_⟩ <;> try (exfalso; omega)) | refine ⟨?_, ?_⟩ | intro _ | skip)
  | (refine Is_DQ ?_; first | (apply DQ_m rfl rfl rfl rfl; focus (intro wq_ Oq_ rq_ mm; (repeat (first | (refine G_nil ?_; exact X_done rfl (List.Sublist.refl _)) | refine V_op ?_)); done)) | (apply DQ_k rfl rfl rfl rfl; intro wq_ Oq_ rq_ mm) | (apply DQ_y rfl rfl rfl rfl; intro wq_ Oq_ rq_ mm)))
  refine ret_none_n rfl fun w' h' => ?_
  exact ⟨⟨_, rfl⟩, rfl, h'⟩
theorem def_trbl (w0 : World) (O : List Nat) (m : List As) (b2 b3 b4 : Nat) (e : Int) (x y z : Value) : DefC Try.prog 49 [.pointer (some ⟨b2, 0, none⟩), .pointer (some ⟨b3, 0, none⟩), .pointer (some ⟨b4, 0, none⟩)] w0 O
    (.box b4 (.cells #[z] 31) :: .box b3 (.cells #[y] 23) :: .box b2 (.cells #[I 0, x, x] 25) :: m) (.panicking (chn (trbl e))) (.panicking [⟨trbl e, true, false⟩])
    (.box b4 (.cells #[I e] 31) :: .box b3 (.cells #[.slice none 0 0] 23) :: .box b2 (.cells #[I 0, .slice none 0 0, .slice none 0 0] 25) :: m) := fun w hw => by
  refine enterR (m' := []) (N := 15) (args := [.pointer (some ⟨b2, 0, none⟩), .pointer (some ⟨b3, 0, none⟩), .pointer (some ⟨b4, 0, none⟩)]) Try.func49 rfl rfl rfl rfl hw ?_
  show GC _ _ _ _ _ _ _ ((_, .iface 84 (.agg #[I e])) :: _) _ _
  repeat' (first
  | refine G_nilC ?_
  | refine G_nilN ?_
  | refine G_nilH ?_
  | (refine G_nil ?_; try clear ri_; try clear ops_)
  | (refine V_op ?_; first | exact True.intro | (intro v_ h_ w_ r_ t_; try (obtain ⟨ta_, tb_⟩ := (t_ : _ ∧ _)); try (obtain ⟨tb_, tc_⟩ := (tb_ : _ ∧ _)); try (obtain ⟨tc_, td_⟩ := (tc_ : _ ∧ _)); try (obtain ⟨td_, te_⟩ := (td_ : _ ∧ _))) | intro (ops_ : Array Oper) ri_ | intro (b_ : Bool) hb_ | (intro v_ h_; try (have o_ := FrzK.one h_)) | intro (v_ : Value) | intro (b_ : Nat) | (refine ⟨fun hc => ?_, fun hc => ?_⟩ <;> try (exfalso; omega)) | refine ⟨?_, ?_⟩ | intro _ | skip)
  | (refine Is_DQ ?_; first | (apply DQ_m rfl rfl rfl rfl; focus (intro wq_ Oq_ rq_ mm; (repeat (first | (refine G_nil ?_; exact X_done rfl (List.Sublist.refl _)) | refine V_op ?_)); done)) | (apply DQ_k rfl rfl rfl rfl; intro wq_ Oq_ rq_ mm) | (apply DQ_y rfl rfl rfl rfl; intro wq_ Oq_ rq_ mm)))
  all_goals
    refine ret_none_n rfl fun w' h' => ?_
    exact ⟨⟨_, rfl⟩, rfl, SubM.ent.st h'⟩
theorem run_first (w0 : World) (O : List Nat) (m : List As) (v : Value) (bs : List (BitVec 8)) (f : Fl) (n : Nat) [h : RdOld w0 O v bs] [hr : Eqn (fiB bs) (.ok (f, n))] (hb : bs.length ≤ 900000) (w : World) (hw : St w0 O m w) :
    Calls Try.prog 40 #[v] w (RetD w0 O m (fun _ : Value × Value × Value => True) (fun i => .tuple #[.agg #[I f.k, i.1, i.2.1], i.2.2, I 0]) (fun i w O => RdOld w O i.1 f.id ∧ RdOld w O i.2.1 f.da ∧ RdOld w O i.2.2 (bs.drop n))) := by
  haveI : One v := h.isOne
  refine enterDF (N := 21) (args := [v]) Try.func40 rfl rfl rfl hw ?_
  repeat' (first
  | refine G_nilC ?_
  | refine G_nilN ?_
  | refine G_nilH ?_
  | (refine G_nil ?_; try clear ri_; try clear ops_)
  | (refine V_op ?_; first | exact True.intro | (intro v_ h_ w_ r_ t_; try (obtain ⟨ta_, tb_⟩ := (t_ : _ ∧ _)); try (obtain ⟨tb_, tc_⟩ := (tb_ : _ ∧ _)); try (obtain ⟨tc_, td_⟩ := (tc_ : _ ∧ _)); try (obtain ⟨td_, te_⟩ := (td_ : _ ∧ _))) | intro (ops_ : Array Oper) ri_ | intro (b_ : Bool) hb_ | (intro v_ h_; try (have o_ := FrzK.one h_)) | intro (v_ : Value) | intro (b_ : Nat) | (refine ⟨fun hc => ?_, fun hc => ?_⟩ <;> try (exfalso; omega)) | refine ⟨?_, ?_⟩ | intro _ | skip)
  | (refine Is_DQ ?_; first | (apply DQ_m rfl rfl rfl rfl; focus (intro wq_ Oq_ rq_ mm; (repeat (first | (refine G_nil ?_; exact X_done rfl (List.Sublist.refl _)) | refine V_op ?_)); done)) | (apply DQ_k rfl rfl rfl rfl; intro wq_ Oq_ rq_ mm) | (apply DQ_y rfl rfl rfl rfl; intro wq_ Oq_ rq_ mm)))
  rename_i b2 b3 b4
  haveI := DrA_40_5
  repeat' (first
  | refine G_nilC ?_
  | refine G_nilN ?_
  | refine G_nilH ?_
  | (refine G_nil ?_; try clear ri_; try clear ops_)
  | (refine V_op ?_; first | exact True.intro | (intro v_ h_ w_ r_ t_; try (obtain ⟨ta_, tb_⟩ := (t_ : _ ∧ _)); try (obtain ⟨tb_, tc_⟩ := (tb_ : _ ∧ _)); try (obtain ⟨tc_, td_⟩ := (tc_ : _ ∧ _)); try (obtain ⟨td_, te_⟩ := (td_ : _ ∧ _))) | intro (ops_ : Array Oper) ri_ | intro (b_ : Bool) hb_ | (intro v_ h_; try (have o_ := FrzK.one h_)) | intro (v_ : Value) | intro (b_ : Nat) | (refine ⟨fun hc => ?_, fun hc => ?_⟩ <;> try (exfalso; omega)) | refine ⟨?_, ?_⟩ | intro _ | skip)
  | (refine Is_DQ ?_; first | (apply DQ_m rfl rfl rfl rfl; focus (intro wq_ Oq_ rq_ mm; (repeat (first | (refine G_nil ?_; exact X_done rfl (List.Sublist.refl _)) | refine V_op ?_)); done)) | (apply DQ_k rfl rfl rfl rfl; intro wq_ Oq_ rq_ mm) | (apply DQ_y rfl rfl rfl rfl; intro wq_ Oq_ rq_ mm)))
  all_goals
    (first | refine G_frz v_.1 ?_ | refine GC_frz v_.1 ?_ | refine At_frz v_.1 ?_); intro w_ _ _ _
    refine retD_ (args := []) (cap := [.pointer (some ⟨b2, 0, none⟩), .pointer (some ⟨b3, 0, none⟩), .pointer (some ⟨b4, 0, none⟩)]) (fn := Try.f40) (def_nil _ _ _ b2 b3 b4) rfl (by repeat (first | exact ResAll.nil | (apply ResAll.cons; first | exact .tmp rfl | exact .cell rfl rfl | exact .one rfl))) fun w' h' => ?_
    exact RetD.mk (v_.1, v_.2.1.v, v_.2.2.v) trivial rfl h' (ht := ⟨inferInstance, inferInstance, inferInstance⟩)
theorem run_firstE (w0 : World) (O : List Nat) (m : List As) (v : Value) (bs : List (BitVec 8)) (e : Int) [h : RdOld w0 O v bs] [hr : Eqn (fiB bs) (.error e)] (hb : bs.length ≤ 900000) (w : World) (hw : St w0 O m w) :
    Calls Try.prog 40 #[v] w (fun y w' => y = .returned (.tuple #[.agg #[I 0, .slice none 0 0, .slice none 0 0], .slice none 0 0, I e]) ∧ St w0 O m w') := by
  haveI : One v := h.isOne
  refine enterDF (N := 21) (args := [v]) Try.func40 rfl rfl rfl hw ?_
  repeat' (first
  | refine G_nilC ?_
  | refine G_nilN ?_
  | refine G_nilH ?_
  | (refine G_nil ?_; try clear ri_; try clear ops_)
  | (refine V_op ?_; first | exact True.intro | (intro v_ h_ w_ r_ t_; try (obtain ⟨ta_, tb_⟩ := (t_ : _ ∧ _)); try (obtain ⟨tb_, tc_⟩ := (tb_ : _ ∧ _)); try (obtain ⟨tc_, td_⟩ := (tc_ : _ ∧ _)); try (obtain ⟨td_, te_⟩ := (td_ : _ ∧ _))) | intro (ops_ : Array Oper) ri_ | intro (b_ : Bool) hb_ | (intro v_ h_; try (have o_ := FrzK.one h_)) | intro (v_ : Value) | intro (b_ : Nat) | (refine ⟨fun hc => ?_, fun hc => ?_⟩ <;> try (exfalso; omega)) | refine ⟨?_, ?_⟩ | intro _ | skip)
  | (refine Is_DQ ?_; first | (apply DQ_m rfl rfl rfl rfl; focus (intro wq_ Oq_ rq_ mm; (repeat (first | (refine G_nil ?_; exact X_done rfl (List.Sublist.refl _)) | refine V_op ?_)); done)) | (apply DQ_k rfl rfl rfl rfl; intro wq_ Oq_ rq_ mm) | (apply DQ_y rfl rfl rfl rfl; intro wq_ Oq_ rq_ mm)))
  rename_i b2 b3 b4
  refine panicD_ (fn := Try.f40) (args := []) (cap := [.pointer (some ⟨b2, 0, none⟩), .pointer (some ⟨b3, 0, none⟩), .pointer (some ⟨b4, 0, none⟩)]) (def_trbl _ _ _ b2 b3 b4 e (.slice none 0 0) (.slice none 0 0) (I 0)) rfl rfl (by repeat (first | exact ResAll.nil | (apply ResAll.cons; first | exact .tmp rfl | exact .cell rfl rfl | exact .one rfl))) fun w' h' => ?_
  exact ⟨rfl, SubM.ent.st h'⟩
end Go.Proofs.Ytdngfkmigpnbnaa
