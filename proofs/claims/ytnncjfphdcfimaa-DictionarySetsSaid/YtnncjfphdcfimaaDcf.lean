/- Dictionary: the reader. -/
import Derived.Test.YtnncjfphdcfimaaDce
set_option linter.unusedVariables false
set_option linter.unusedSimpArgs false
set_option maxRecDepth 100000
set_option maxHeartbeats 4000000
namespace Go.Proofs.Ytnncjfphdcfimaa
open Go.RowKit
attribute [local irreducible] G GC At wpL DR XPost CPost Cut GA GAR GAX GAt NxA GH GHR NxH
attribute [local irreducible] ofD srtL cmpL

instance (priority := low) convR_u64_any {P : Program} {t t' : TypeId} {ut : TypeDesc} (x : Int) [h1 : Und P t ut] [h2 : Und P t' (.int .i64)] : ConvR P t t' (.int .u64 x) (0 ≤ x ∧ x ≤ 9223372036854775807) (I x) := ⟨fun hs w => conv_int (IntWalk.i64_in _ (by omega)) w⟩
theorem most_nat {mst : Int} (hm : 0 ≤ mst ∧ mst ≤ 100000) : ((BitVec.ofInt 64 mst + 1#64).toNat : Int) = mst + 1 := by
  obtain ⟨n, rfl⟩ := Int.eq_ofNat_of_zero_le hm.1
  rw [BitVec.ofInt_natCast, BitVec.toNat_add, BitVec.toNat_ofNat, BitVec.toNat_ofNat]
  omega
theorem run_number (w0 : World) (O : List Nat) (m : List As) (b : Nat) (u : Value) (xs : List (BitVec 8)) (n : BitVec 64) (k : Nat) (mst : Int) (hm : 0 ≤ mst ∧ mst ≤ 100000) [h : RdOld w0 O u xs] [hu : Eqn (rdB xs) (.ok (n, k))] (w : World) (hw : St w0 O (.box b (.cells #[u, I 0] 79) :: m) w) :
    Calls Try.prog 61 #[.pointer (some ⟨b, 0, none⟩), I mst] w (fun y w' => ∃ _ : Unit, True ∧ y = .returned (I (min (n.toNat : Int) (mst + 1))) ∧ St w0 O (.box b (.cells #[cut (BitVec 8) u k xs.length, I 0] 79) :: m) w') := by
  have hk := rdB_le hu.eq
  refine enterF (N := 36) (args := [.pointer (some ⟨b, 0, none⟩), I mst]) Try.func61 rfl rfl rfl hw ?_
  have hq := most_nat hm
  repeat' (first
  | refine G_nilC ?_
  | refine G_nilN ?_
  | refine G_nilH ?_
  | (refine G_nil ?_; try clear ri_; try clear ops_)
  | (refine V_op ?_; first | exact True.intro | (intro v_ h_ w_ r_ t_; try (obtain ⟨ta_, tb_⟩ := (t_ : _ ∧ _)); try (obtain ⟨tb_, tc_⟩ := (tb_ : _ ∧ _)); try (obtain ⟨tc_, td_⟩ := (tc_ : _ ∧ _)); try (obtain ⟨td_, te_⟩ := (td_ : _ ∧ _))) | intro (ops_ : Array Oper) ri_ | intro (b_ : Bool) hb_ | (intro v_ h_; try (have o_ := FrzK.one h_)) | intro (v_ : Value) | intro (b_ : Nat) | (refine ⟨fun hc => ?_, fun hc => ?_⟩ <;> try (exfalso; omega)) | refine ⟨?_, ?_⟩ | intro _ | skip)
  | (refine Is_DQ ?_; first | (apply DQ_m rfl rfl rfl rfl; focus (intro wq_ Oq_ rq_ mm; (repeat (first | (refine G_nil ?_; exact X_done rfl (List.Sublist.refl _)) | refine V_op ?_)); done)) | (apply DQ_k rfl rfl rfl rfl; intro wq_ Oq_ rq_ mm) | (apply DQ_y rfl rfl rfl rfl; intro wq_ Oq_ rq_ mm)))
  refine ret_ rfl (by repeat (first | exact ResAll.nil | (apply ResAll.cons; first | exact .tmp rfl | exact .cell rfl rfl | exact .one rfl))) fun w' h' => ?_
  exact ⟨(), trivial, by rw [← hq], h'⟩
theorem run_numberE (w0 : World) (O : List Nat) (m : List As) (b : Nat) (u : Value) (xs : List (BitVec 8)) (e : Int) (mst : Int) (hm : 0 ≤ mst ∧ mst ≤ 100000) [h : RdOld w0 O u xs] [hu : Eqn (rdB xs) (.error e)] (w : World) (hw : St w0 O (.box b (.cells #[u, I 0] 79) :: m) w) :
    Calls Try.prog 61 #[.pointer (some ⟨b, 0, none⟩), I mst] w (fun y w' => ∃ _ : Unit, True ∧ y = .returned (I 0) ∧ St w0 O (.box b (.cells #[.slice none 0 0, I e] 79) :: m) w') := by
  have he := rd_err hu.eq
  refine enterF (N := 36) (args := [.pointer (some ⟨b, 0, none⟩), I mst]) Try.func61 rfl rfl rfl hw ?_
  have hq := most_nat hm
  have hz : ((0#64 : BitVec 64).toNat : Int) = 0 := rfl
  repeat' (first
  | refine G_nilC ?_
  | refine G_nilN ?_
  | refine G_nilH ?_
  | (refine G_nil ?_; try clear ri_; try clear ops_)
  | (refine V_op ?_; first | exact True.intro | (intro v_ h_ w_ r_ t_; try (obtain ⟨ta_, tb_⟩ := (t_ : _ ∧ _)); try (obtain ⟨tb_, tc_⟩ := (tb_ : _ ∧ _)); try (obtain ⟨tc_, td_⟩ := (tc_ : _ ∧ _)); try (obtain ⟨td_, te_⟩ := (td_ : _ ∧ _))) | intro (ops_ : Array Oper) ri_ | intro (b_ : Bool) hb_ | (intro v_ h_; try (have o_ := FrzK.one h_)) | intro (v_ : Value) | intro (b_ : Nat) | (refine ⟨fun hc => ?_, fun hc => ?_⟩ <;> try (exfalso; omega)) | refine ⟨?_, ?_⟩ | intro _ | skip)
  | (refine Is_DQ ?_; first | (apply DQ_m rfl rfl rfl rfl; focus (intro wq_ Oq_ rq_ mm; (repeat (first | (refine G_nil ?_; exact X_done rfl (List.Sublist.refl _)) | refine V_op ?_)); done)) | (apply DQ_k rfl rfl rfl rfl; intro wq_ Oq_ rq_ mm) | (apply DQ_y rfl rfl rfl rfl; intro wq_ Oq_ rq_ mm)))
  refine ret_ rfl (by repeat (first | exact ResAll.nil | (apply ResAll.cons; first | exact .tmp rfl | exact .cell rfl rfl | exact .one rfl))) fun w' h' => ?_
  exact ⟨(), trivial, by rw [show min (((0#64 : BitVec 64).toNat : Nat) : Int) ((BitVec.ofInt 64 mst + 1#64).toNat : Int) = 0 by omega], h'⟩
theorem run_numberN (w0 : World) (O : List Nat) (m : List As) (b : Nat) (u : Value) (e : Int) (mst : Int) (he : ¬ e = 0) (w : World) (hw : St w0 O (.box b (.cells #[u, I e] 79) :: m) w) :
    Calls Try.prog 61 #[.pointer (some ⟨b, 0, none⟩), I mst] w (fun y w' => ∃ _ : Unit, True ∧ y = .returned (I 0) ∧ St w0 O (.box b (.cells #[u, I e] 79) :: m) w') := by
  refine enterF (N := 36) (args := [.pointer (some ⟨b, 0, none⟩), I mst]) Try.func61 rfl rfl rfl hw ?_
  repeat' (first
  | refine G_nilC ?_
  | refine G_nilN ?_
  | refine G_nilH ?_
  | (refine G_nil ?_; try clear ri_; try clear ops_)
  | (refine V_op ?_; first | exact True.intro | (intro v_ h_ w_ r_ t_; try (obtain ⟨ta_, tb_⟩ := (t_ : _ ∧ _)); try (obtain ⟨tb_, tc_⟩ := (tb_ : _ ∧ _)); try (obtain ⟨tc_, td_⟩ := (tc_ : _ ∧ _)); try (obtain ⟨td_, te_⟩ := (td_ : _ ∧ _))) | intro (ops_ : Array Oper) ri_ | intro (b_ : Bool) hb_ | (intro v_ h_; try (have o_ := FrzK.one h_)) | intro (v_ : Value) | intro (b_ : Nat) | (refine ⟨fun hc => ?_, fun hc => ?_⟩ <;> try (exfalso; omega)) | refine ⟨?_, ?_⟩ | intro _ | skip)
  | (refine Is_DQ ?_; first | (apply DQ_m rfl rfl rfl rfl; focus (intro wq_ Oq_ rq_ mm; (repeat (first | (refine G_nil ?_; exact X_done rfl (List.Sublist.refl _)) | refine V_op ?_)); done)) | (apply DQ_k rfl rfl rfl rfl; intro wq_ Oq_ rq_ mm) | (apply DQ_y rfl rfl rfl rfl; intro wq_ Oq_ rq_ mm)))
  refine ret_ rfl (by repeat (first | exact ResAll.nil | (apply ResAll.cons; first | exact .tmp rfl | exact .cell rfl rfl | exact .one rfl))) fun w' h' => ?_
  exact ⟨(), trivial, rfl, h'⟩
theorem run_needT (w0 : World) (O : List Nat) (m : List As) (b : Nat) (u : Value) (e e' : Int) (w : World) (hw : St w0 O (.box b (.cells #[u, I e] 79) :: m) w) :
    Calls Try.prog 62 #[.pointer (some ⟨b, 0, none⟩), .bool true, I e'] w (fun y w' => ∃ _ : Unit, True ∧ y = .returned (.tuple #[]) ∧ St w0 O (.box b (.cells #[u, I e] 79) :: m) w') := by
  refine enterF (N := 19) (args := [.pointer (some ⟨b, 0, none⟩), .bool true, I e']) Try.func62 rfl rfl rfl hw ?_
  repeat' (first
  | refine G_nilC ?_
  | refine G_nilN ?_
  | refine G_nilH ?_
  | (refine G_nil ?_; try clear ri_; try clear ops_)
  | (refine V_op ?_; first | exact True.intro | (intro v_ h_ w_ r_ t_; try (obtain ⟨ta_, tb_⟩ := (t_ : _ ∧ _)); try (obtain ⟨tb_, tc_⟩ := (tb_ : _ ∧ _)); try (obtain ⟨tc_, td_⟩ := (tc_ : _ ∧ _)); try (obtain ⟨td_, te_⟩ := (td_ : _ ∧ _))) | intro (ops_ : Array Oper) ri_ | intro (b_ : Bool) hb_ | (intro v_ h_; try (have o_ := FrzK.one h_)) | intro (v_ : Value) | intro (b_ : Nat) | (refine ⟨fun hc => ?_, fun hc => ?_⟩ <;> try (exfalso; omega)) | refine ⟨?_, ?_⟩ | intro _ | skip)
  | (refine Is_DQ ?_; first | (apply DQ_m rfl rfl rfl rfl; focus (intro wq_ Oq_ rq_ mm; (repeat (first | (refine G_nil ?_; exact X_done rfl (List.Sublist.refl _)) | refine V_op ?_)); done)) | (apply DQ_k rfl rfl rfl rfl; intro wq_ Oq_ rq_ mm) | (apply DQ_y rfl rfl rfl rfl; intro wq_ Oq_ rq_ mm)))
  all_goals
    refine ret_none_n rfl fun w' h' => ?_
    exact ⟨(), trivial, rfl, h'⟩
theorem run_needF (w0 : World) (O : List Nat) (m : List As) (b : Nat) (u : Value) (e' : Int) (w : World) (hw : St w0 O (.box b (.cells #[u, I 0] 79) :: m) w) :
    Calls Try.prog 62 #[.pointer (some ⟨b, 0, none⟩), .bool false, I e'] w (fun y w' => ∃ _ : Unit, True ∧ y = .returned (.tuple #[]) ∧ St w0 O (.box b (.cells #[u, I e'] 79) :: m) w') := by
  refine enterF (N := 19) (args := [.pointer (some ⟨b, 0, none⟩), .bool false, I e']) Try.func62 rfl rfl rfl hw ?_
  repeat' (first
  | refine G_nilC ?_
  | refine G_nilN ?_
  | refine G_nilH ?_
  | (refine G_nil ?_; try clear ri_; try clear ops_)
  | (refine V_op ?_; first | exact True.intro | (intro v_ h_ w_ r_ t_; try (obtain ⟨ta_, tb_⟩ := (t_ : _ ∧ _)); try (obtain ⟨tb_, tc_⟩ := (tb_ : _ ∧ _)); try (obtain ⟨tc_, td_⟩ := (tc_ : _ ∧ _)); try (obtain ⟨td_, te_⟩ := (td_ : _ ∧ _))) | intro (ops_ : Array Oper) ri_ | intro (b_ : Bool) hb_ | (intro v_ h_; try (have o_ := FrzK.one h_)) | intro (v_ : Value) | intro (b_ : Nat) | (refine ⟨fun hc => ?_, fun hc => ?_⟩ <;> try (exfalso; omega)) | refine ⟨?_, ?_⟩ | intro _ | skip)
  | (refine Is_DQ ?_; first | (apply DQ_m rfl rfl rfl rfl; focus (intro wq_ Oq_ rq_ mm; (repeat (first | (refine G_nil ?_; exact X_done rfl (List.Sublist.refl _)) | refine V_op ?_)); done)) | (apply DQ_k rfl rfl rfl rfl; intro wq_ Oq_ rq_ mm) | (apply DQ_y rfl rfl rfl rfl; intro wq_ Oq_ rq_ mm)))
  all_goals
    refine ret_none_n rfl fun w' h' => ?_
    exact ⟨(), trivial, rfl, h'⟩
theorem run_needN (w0 : World) (O : List Nat) (m : List As) (b : Nat) (u : Value) (e e' : Int) (q : Bool) (he : ¬ e = 0) (w : World) (hw : St w0 O (.box b (.cells #[u, I e] 79) :: m) w) :
    Calls Try.prog 62 #[.pointer (some ⟨b, 0, none⟩), .bool q, I e'] w (fun y w' => ∃ _ : Unit, True ∧ y = .returned (.tuple #[]) ∧ St w0 O (.box b (.cells #[u, I e] 79) :: m) w') := by
  refine enterF (N := 19) (args := [.pointer (some ⟨b, 0, none⟩), .bool q, I e']) Try.func62 rfl rfl rfl hw ?_
  repeat' (first
  | refine G_nilC ?_
  | refine G_nilN ?_
  | refine G_nilH ?_
  | (refine G_nil ?_; try clear ri_; try clear ops_)
  | (refine V_op ?_; first | exact True.intro | (intro v_ h_ w_ r_ t_; try (obtain ⟨ta_, tb_⟩ := (t_ : _ ∧ _)); try (obtain ⟨tb_, tc_⟩ := (tb_ : _ ∧ _)); try (obtain ⟨tc_, td_⟩ := (tc_ : _ ∧ _)); try (obtain ⟨td_, te_⟩ := (td_ : _ ∧ _))) | intro (ops_ : Array Oper) ri_ | intro (b_ : Bool) hb_ | (intro v_ h_; try (have o_ := FrzK.one h_)) | intro (v_ : Value) | intro (b_ : Nat) | (refine ⟨fun hc => ?_, fun hc => ?_⟩ <;> try (exfalso; omega)) | refine ⟨?_, ?_⟩ | intro _ | skip)
  | (refine Is_DQ ?_; first | (apply DQ_m rfl rfl rfl rfl; focus (intro wq_ Oq_ rq_ mm; (repeat (first | (refine G_nil ?_; exact X_done rfl (List.Sublist.refl _)) | refine V_op ?_)); done)) | (apply DQ_k rfl rfl rfl rfl; intro wq_ Oq_ rq_ mm) | (apply DQ_y rfl rfl rfl rfl; intro wq_ Oq_ rq_ mm)))
  all_goals
    refine ret_none_n rfl fun w' h' => ?_
    exact ⟨(), trivial, rfl, h'⟩
class BoolV (v : Value) : Prop where
  ok : ∃ q, v = .bool q
instance boolV_ (q : Bool) : BoolV (.bool q) := ⟨q, rfl⟩
section
variable {w0 : World} {O : List Nat} {m mk : List As} {b : Nat} {u v : Value} {xs : List (BitVec 8)} {n : BitVec 64} {k : Nat} {mst e e' : Int}
instance [hb : BoxR b m (.cells #[u, .int .i64 0] 79) mk] [h : RdOld w0 O u xs] [hu : Eqn (rdB xs) (.ok (n, k))] {r : Int} [hr : Eqn (min (n.toNat : Int) (mst + 1)) r] : CallR Try.prog w0 O m 61 [.pointer (some ⟨b, 0, none⟩), .int .i64 mst] (0 ≤ mst ∧ mst ≤ 100000) (fun _ : Unit => True) (fun _ => I r) (fun _ => .box b (.cells #[cut (BitVec 8) u k xs.length, I 0] 79) :: mk) :=
  ⟨fun hs w hw => by rw [← hr.eq]; exact run_number w0 O mk b u xs n k mst hs w (hb.ent.st hw)⟩
instance [hb : BoxR b m (.cells #[u, .int .i64 0] 79) mk] [h : RdOld w0 O u xs] [hu : Eqn (rdB xs) (.error e)] : CallR Try.prog w0 O m 61 [.pointer (some ⟨b, 0, none⟩), .int .i64 mst] (0 ≤ mst ∧ mst ≤ 100000) (fun _ : Unit => True) (fun _ => I 0) (fun _ => .box b (.cells #[.slice none 0 0, I e] 79) :: mk) :=
  ⟨fun hs w hw => run_numberE w0 O mk b u xs e mst hs w (hb.ent.st hw)⟩
instance [hb : BoxR b m (.cells #[u, .int .i64 e] 79) mk] [he : Fct (¬ e = 0)] : CallR Try.prog w0 O m 61 [.pointer (some ⟨b, 0, none⟩), .int .i64 mst] True (fun _ : Unit => True) (fun _ => I 0) (fun _ => .box b (.cells #[u, I e] 79) :: mk) :=
  ⟨fun hs w hw => run_numberN w0 O mk b u e mst he.out w (hb.ent.st hw)⟩
instance (priority := high) [hb : BoxR b m (.cells #[u, .int .i64 e] 79) mk] [hv : TrueV v] : CallR Try.prog w0 O m 62 [.pointer (some ⟨b, 0, none⟩), v, .int .i64 e'] True (fun _ : Unit => True) (fun _ => .tuple #[]) (fun _ => .box b (.cells #[u, I e] 79) :: mk) :=
  ⟨fun hs w hw => by rw [hv.eq]; exact run_needT w0 O mk b u e e' w (hb.ent.st hw)⟩
instance [hb : BoxR b m (.cells #[u, .int .i64 0] 79) mk] [hv : FalseV v] : CallR Try.prog w0 O m 62 [.pointer (some ⟨b, 0, none⟩), v, .int .i64 e'] True (fun _ : Unit => True) (fun _ => .tuple #[]) (fun _ => .box b (.cells #[u, I e'] 79) :: mk) :=
  ⟨fun hs w hw => by rw [hv.eq]; exact run_needF w0 O mk b u e' w (hb.ent.st hw)⟩
instance (priority := low) [hb : BoxR b m (.cells #[u, .int .i64 e] 79) mk] [he : Fct (¬ e = 0)] [hv : BoolV v] : CallR Try.prog w0 O m 62 [.pointer (some ⟨b, 0, none⟩), v, .int .i64 e'] True (fun _ : Unit => True) (fun _ => .tuple #[]) (fun _ => .box b (.cells #[u, I e] 79) :: mk) :=
  ⟨fun hs w hw => by obtain ⟨q, rfl⟩ := hv.ok; exact run_needN w0 O mk b u e e' q he.out w (hb.ent.st hw)⟩
end
end Go.Proofs.Ytnncjfphdcfimaa
