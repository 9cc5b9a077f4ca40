/- Dictionary: Unpack. -/
import Derived.Test.YtnncjfphdcfimaaDch
import Derived.Test.YtnncjfphdcfimaaDci
set_option linter.unusedVariables false
set_option linter.unusedSimpArgs false
set_option maxRecDepth 100000
set_option maxHeartbeats 4000000
namespace Go.Proofs.Ytnncjfphdcfimaa
open Go.RowKit
attribute [local irreducible] G GC At wpL DR XPost CPost Cut GA GAR GAX GAt NxA GH GHR NxH
attribute [local irreducible] ofD srtL cmpL

theorem lib_CloneB (w : World) (v : Value) (l : List (BitVec 8)) [h : RdOld w [] v l] (hl : l.length ≤ 1000000) : Calls Try.prog 46 #[v] w (Ret w [] (fun _ : Value => True) (fun r => r) (fun r => [row r 5 l])) := by
  have hlen := h.rd.len_le
  refine enter (N := 8) (args := [v]) Try.func46 rfl rfl rfl (St.refl w) ?_
  repeat' (first
  | refine G_nilC ?_
  | refine G_nilN ?_
  | refine G_nilH ?_
  | (refine G_nil ?_; try clear ri_; try clear ops_)
  | (refine V_opW ?_; first | exact True.intro | (intro v_ h_ w_ r_ t_; try (obtain ⟨ta_, tb_⟩ := (t_ : _ ∧ _)); try (obtain ⟨tb_, tc_⟩ := (tb_ : _ ∧ _)); try (obtain ⟨tc_, td_⟩ := (tc_ : _ ∧ _)); try (obtain ⟨td_, te_⟩ := (td_ : _ ∧ _))) | intro (ops_ : Array Oper) ri_ | intro (b_ : Bool) hb_ | (intro v_ h_; try (have o_ := FrzK.one h_)) | intro (v_ : Value) | intro (b_ : Nat) | (refine ⟨fun hc => ?_, fun hc => ?_⟩ <;> try (exfalso; omega)) | refine ⟨?_, ?_⟩ | intro _ | skip)
  | (refine Is_DQ ?_; first | (apply DQ_m rfl rfl rfl rfl; focus (intro wq_ Oq_ rq_ mm; (repeat (first | (refine G_nil ?_; exact X_done rfl (List.Sublist.refl _)) | refine V_opW ?_)); done)) | (apply DQ_k rfl rfl rfl rfl; intro wq_ Oq_ rq_ mm) | (apply DQ_y rfl rfl rfl rfl; intro wq_ Oq_ rq_ mm)))
  · have := hb_ hc
    subst this
    refine ret_ rfl (by repeat (first | exact ResAll.nil | (apply ResAll.cons; first | exact .tmp rfl | exact .cell rfl rfl | exact .one rfl))) fun w' h' => ?_
    exact .mk (.slice none 0 0) trivial rfl h'
  · refine ret_ rfl (by repeat (first | exact ResAll.nil | (apply ResAll.cons; first | exact .tmp rfl | exact .cell rfl rfl | exact .one rfl))) fun w' h' => ?_
    exact .mk _ trivial rfl h'
instance {w0 : World} {O : List Nat} {m : List As} {v : Value} {l : List (BitVec 8)} [h : RdR w0 O m v l] : CallR Try.prog w0 O m 46 [v] (l.length ≤ 1000000) (fun _ : Value => True) (fun r => r) (fun r => row r 5 l :: m) :=
  .new1 (M := fun r => row r _ l) fun hs w hw => @lib_CloneB w v l (RdOld.of (h.rd w hw)) hs
theorem run_strs (w0 : World) (O : List Nat) (m : List As) (rb : Nat) (w : World) (hw : St w0 O m w) :
    Calls Try.prog 45 #[.pointer (some ⟨rb, 0, none⟩)] w (fun y w' => ∃ b : Nat, True ∧ y = .returned (.func (.func 60) #[] #[.pointer (some ⟨b, 0, none⟩)]) ∧ St w0 O (.box b (rdP rb) :: m) w') := by
  refine enterF (N := 4) (args := [.pointer (some ⟨rb, 0, none⟩)]) Try.func45 rfl rfl rfl hw ?_
  repeat' (first
  | refine G_nilC ?_
  | refine G_nilN ?_
  | refine G_nilH ?_
  | (refine G_nil ?_; try clear ri_; try clear ops_)
  | (refine V_op ?_; first | exact True.intro | (intro v_ h_ w_ r_ t_; try (obtain ⟨ta_, tb_⟩ := (t_ : _ ∧ _)); try (obtain ⟨tb_, tc_⟩ := (tb_ : _ ∧ _)); try (obtain ⟨tc_, td_⟩ := (tc_ : _ ∧ _)); try (obtain ⟨td_, te_⟩ := (td_ : _ ∧ _))) | intro (ops_ : Array Oper) ri_ | intro (b_ : Bool) hb_ | (intro v_ h_; try (have o_ := FrzK.one h_)) | intro (v_ : Value) | intro (b_ : Nat) | (refine ⟨fun hc => ?_, fun hc => ?_⟩ <;> try (exfalso; omega)) | refine ⟨?_, ?_⟩ | intro _ | skip)
  | (refine Is_DQ ?_; first | (apply DQ_m rfl rfl rfl rfl; focus (intro wq_ Oq_ rq_ mm; (repeat (first | (refine G_nil ?_; exact X_done rfl (List.Sublist.refl _)) | refine V_op ?_)); done)) | (apply DQ_k rfl rfl rfl rfl; intro wq_ Oq_ rq_ mm) | (apply DQ_y rfl rfl rfl rfl; intro wq_ Oq_ rq_ mm)))
  refine ret_ rfl (by repeat (first | exact ResAll.nil | (apply ResAll.cons; first | exact .tmp rfl | exact .cell rfl rfl | exact .one rfl))) fun w' h' => ?_
  exact ⟨b_, trivial, rfl, h'⟩
instance {w0 : World} {O : List Nat} {m : List As} {rb : Nat} : CallR Try.prog w0 O m 45 [.pointer (some ⟨rb, 0, none⟩)] True (fun _ : Nat => True) (fun b => .func (.func 60) #[] #[.pointer (some ⟨b, 0, none⟩)]) (fun b => .box b (rdP rb) :: m) :=
  ⟨fun _ w hw => run_strs w0 O m rb w hw⟩
theorem unS_len : ∀ (n : Nat) (f : Bool) (bf q : List (BitVec 8)), (unS n f bf q).1.length ≤ n
  | 0, _, _, _ => Nat.le_refl _
  | n + 1, f, bf, q => by
    rw [unS]; split
    · exact Nat.zero_le _
    · exact Nat.succ_le_succ (unS_len n false _ _)
theorem un_len (bs : List (BitVec 8)) : (unD bs).1.length ≤ 4096 := by
  rw [unD]; split
  · exact Nat.zero_le _
  · split
    · exact Nat.zero_le _
    · exact Nat.le_trans (unS_len _ _ _ _) (by omega)
theorem un_rest {bs r : List (BitVec 8)} {l : List ByteArray} (h : unD bs = (l, .ok r)) : r.length ≤ bs.length := by
  have h1 := congrArg List.length (un_canon h).2
  rw [List.length_append] at h1
  omega
theorem run_Unpack (w : World) (v : Value) (bs : List (BitVec 8)) [h : RdOld w [] v bs] (hb : bs.length ≤ 1000000) :
    Calls Try.prog 37 #[v] w (fun y w' => match (unD bs).2 with
      | .ok q => ∃ i : Value × Value, y = .returned (.tuple #[i.1, i.2, I 0]) ∧ St w [] [row i.1 9 (unD bs).1, row i.2 5 q] w'
      | .error e => y = .returned (.tuple #[.slice none 0 0, .slice none 0 0, I e]) ∧ St w [] [] w') := by
  have hse : ∀ k (hk : k < (unD bs).1.length), ((unD bs).1.take k) ++ [(unD bs).1[k]] = (unD bs).1.take (k + 1) := fun k hk => (List.take_succ_eq_append_getElem hk).symm
  have hcn := un_len bs
  refine enterMF (N := 33) (args := [v]) Try.func37 rfl rfl rfl (St.refl w) ?_
  repeat' (first
  | refine G_nilC ?_
  | refine G_nilN ?_
  | refine G_nilH ?_
  | (refine G_nil ?_; try clear ri_; try clear ops_)
  | (refine V_op ?_; first | exact True.intro | (intro v_ h_ w_ r_ t_; try (obtain ⟨ta_, tb_⟩ := (t_ : _ ∧ _)); try (obtain ⟨tb_, tc_⟩ := (tb_ : _ ∧ _)); try (obtain ⟨tc_, td_⟩ := (tc_ : _ ∧ _)); try (obtain ⟨td_, te_⟩ := (td_ : _ ∧ _))) | intro (ops_ : Array Oper) ri_ | intro (b_ : Bool) hb_ | (intro v_ h_; try (have o_ := FrzK.one h_)) | intro (v_ : Value) | intro (b_ : Nat) | (refine ⟨fun hc => ?_, fun hc => ?_⟩ <;> try (exfalso; omega)) | refine ⟨?_, ?_⟩ | intro _ | skip)
  | (refine Is_DQ ?_; first | (apply DQ_m rfl rfl rfl rfl; focus (intro wq_ Oq_ rq_ mm; (repeat (first | (refine G_nil ?_; exact X_done rfl (List.Sublist.refl _)) | refine V_op ?_)); done)) | (apply DQ_k rfl rfl rfl rfl; intro wq_ Oq_ rq_ mm) | (apply DQ_y rfl rfl rfl rfl; intro wq_ Oq_ rq_ mm)))
  rename_i rb
  refine GC_rangeX (X := Value × Value × Int) (τ := Nat) (first := []) (cap := [.pointer (some ⟨v_, 0, none⟩)]) (fun x => match (unD bs).2 with | .ok q => x.2.2 = 0 ∧ RdOld w [] x.2.1 q | .error e => x.2.2 = e) (fun _ => 0) (fun x => .box b_ (.cells #[x.1] 23) :: .box rb (rdO x.2.1 x.2.2) :: [row x.1 9 (unD bs).1]) (fun _ => none) rfl ?_ ?_ (fun _ _ _ _ _ _ _ h => by cases h)
  · intro fn tmps dd ll w1 rc hrc hs hst
    refine (it_strs w [] v bs v_ rb ll (fun k (x : Value) => .box b_ (.cells #[x] 23) :: row x 9 ((unD bs).1.take k) :: [.box ll (rc .ready none), .box dd (.deferred (some []))]) (.slice none 0 0) hb ?_ w1 ?_).mono ?_
    · intro w1 O1 hr1 k hk x u w2 hst2
      subst hrc
      simp only at hst2 ⊢
      refine yd_F (ps := [13]) hst2 hs rfl rfl rfl ?_
      repeat' (first
  | refine G_nilC ?_
  | refine G_nilN ?_
  | refine G_nilH ?_
  | (refine G_nil ?_; try clear ri_; try clear ops_)
  | (refine V_op ?_; first | exact True.intro | (intro v_ h_ w_ r_ t_; try (obtain ⟨ta_, tb_⟩ := (t_ : _ ∧ _)); try (obtain ⟨tb_, tc_⟩ := (tb_ : _ ∧ _)); try (obtain ⟨tc_, td_⟩ := (tc_ : _ ∧ _)); try (obtain ⟨td_, te_⟩ := (td_ : _ ∧ _))) | intro (ops_ : Array Oper) ri_ | intro (b_ : Bool) hb_ | (intro v_ h_; try (have o_ := FrzK.one h_)) | intro (v_ : Value) | intro (b_ : Nat) | (refine ⟨fun hc => ?_, fun hc => ?_⟩ <;> try (exfalso; omega)) | refine ⟨?_, ?_⟩ | intro _ | skip)
  | (refine Is_DQ ?_; first | (apply DQ_m rfl rfl rfl rfl; focus (intro wq_ Oq_ rq_ mm; (repeat (first | (refine G_nil ?_; exact X_done rfl (List.Sublist.refl _)) | refine V_op ?_)); done)) | (apply DQ_k rfl rfl rfl rfl; intro wq_ Oq_ rq_ mm) | (apply DQ_y rfl rfl rfl rfl; intro wq_ Oq_ rq_ mm)))
      refine At_beginF ?_
      have hk1 : ((unD bs).1.take k).length ≤ 1000000 := by rw [List.length_take]; omega
      repeat' (first
  | refine G_nilC ?_
  | refine G_nilN ?_
  | refine G_nilH ?_
  | (refine G_nil ?_; try clear ri_; try clear ops_)
  | (refine V_op ?_; first | exact True.intro | (intro v_ h_ w_ r_ t_; try (obtain ⟨ta_, tb_⟩ := (t_ : _ ∧ _)); try (obtain ⟨tb_, tc_⟩ := (tb_ : _ ∧ _)); try (obtain ⟨tc_, td_⟩ := (tc_ : _ ∧ _)); try (obtain ⟨td_, te_⟩ := (td_ : _ ∧ _))) | intro (ops_ : Array Oper) ri_ | intro (b_ : Bool) hb_ | (intro v_ h_; try (have o_ := FrzK.one h_)) | intro (v_ : Value) | intro (b_ : Nat) | (refine ⟨fun hc => ?_, fun hc => ?_⟩ <;> try (exfalso; omega)) | refine ⟨?_, ?_⟩ | intro _ | skip)
  | (refine Is_DQ ?_; first | (apply DQ_m rfl rfl rfl rfl; focus (intro wq_ Oq_ rq_ mm; (repeat (first | (refine G_nil ?_; exact X_done rfl (List.Sublist.refl _)) | refine V_op ?_)); done)) | (apply DQ_k rfl rfl rfl rfl; intro wq_ Oq_ rq_ mm) | (apply DQ_y rfl rfl rfl rfl; intro wq_ Oq_ rq_ mm)))
      exact At_endF fun w' h' => RndX.mk true v_ rfl h'
    · simp only [List.take_zero]
      exact SubM.ent.st hst
    · rintro e w2 ⟨he, x, qv, er, hst2, hres⟩
      rw [List.take_of_length_le (Nat.le_refl _)] at hst2
      exact ⟨(x, qv, er), .ready, hres, by simp, he, SubM.ent.st hst2, trivial⟩
  · rintro dd ⟨dv, qv, er⟩ w1 hr1 hT1 hres _
    simp only at hres ⊢
    cases hu : (unD bs).2 with
    | error e =>
      rw [hu] at hres
      simp only at hres
      subst hres
      have he := un_err (l := (unD bs).1) (Prod.ext rfl hu)
      repeat' (first
  | refine G_nilC ?_
  | refine G_nilN ?_
  | refine G_nilH ?_
  | (refine G_nil ?_; try clear ri_; try clear ops_)
  | (refine V_op ?_; first | exact True.intro | (intro v_ h_ w_ r_ t_; try (obtain ⟨ta_, tb_⟩ := (t_ : _ ∧ _)); try (obtain ⟨tb_, tc_⟩ := (tb_ : _ ∧ _)); try (obtain ⟨tc_, td_⟩ := (tc_ : _ ∧ _)); try (obtain ⟨td_, te_⟩ := (td_ : _ ∧ _))) | intro (ops_ : Array Oper) ri_ | intro (b_ : Bool) hb_ | (intro v_ h_; try (have o_ := FrzK.one h_)) | intro (v_ : Value) | intro (b_ : Nat) | (refine ⟨fun hc => ?_, fun hc => ?_⟩ <;> try (exfalso; omega)) | refine ⟨?_, ?_⟩ | intro _ | skip)
  | (refine Is_DQ ?_; first | (apply DQ_m rfl rfl rfl rfl; focus (intro wq_ Oq_ rq_ mm; (repeat (first | (refine G_nil ?_; exact X_done rfl (List.Sublist.refl _)) | refine V_op ?_)); done)) | (apply DQ_k rfl rfl rfl rfl; intro wq_ Oq_ rq_ mm) | (apply DQ_y rfl rfl rfl rfl; intro wq_ Oq_ rq_ mm)))
      refine At_markF (.inl rfl) ?_
      refine retM_ rfl (by repeat (first | exact ResAll.nil | (apply ResAll.cons; first | exact .tmp rfl | exact .cell rfl rfl | exact .one rfl))) fun w' h' => ?_
      exact ⟨rfl, RebT.h _ _ (SubM.ent.st h' : St _ _ [] w')⟩
    | ok q =>
      rw [hu] at hres
      obtain ⟨h5, h6⟩ := hres
      subst h5
      have hql := un_rest (l := (unD bs).1) (Prod.ext rfl hu)
      repeat' (first
  | refine G_nilC ?_
  | refine G_nilN ?_
  | refine G_nilH ?_
  | (refine G_nil ?_; try clear ri_; try clear ops_)
  | (refine V_op ?_; first | exact True.intro | (intro v_ h_ w_ r_ t_; try (obtain ⟨ta_, tb_⟩ := (t_ : _ ∧ _)); try (obtain ⟨tb_, tc_⟩ := (tb_ : _ ∧ _)); try (obtain ⟨tc_, td_⟩ := (tc_ : _ ∧ _)); try (obtain ⟨td_, te_⟩ := (td_ : _ ∧ _))) | intro (ops_ : Array Oper) ri_ | intro (b_ : Bool) hb_ | (intro v_ h_; try (have o_ := FrzK.one h_)) | intro (v_ : Value) | intro (b_ : Nat) | (refine ⟨fun hc => ?_, fun hc => ?_⟩ <;> try (exfalso; omega)) | refine ⟨?_, ?_⟩ | intro _ | skip)
  | (refine Is_DQ ?_; first | (apply DQ_m rfl rfl rfl rfl; focus (intro wq_ Oq_ rq_ mm; (repeat (first | (refine G_nil ?_; exact X_done rfl (List.Sublist.refl _)) | refine V_op ?_)); done)) | (apply DQ_k rfl rfl rfl rfl; intro wq_ Oq_ rq_ mm) | (apply DQ_y rfl rfl rfl rfl; intro wq_ Oq_ rq_ mm)))
      refine At_markF (.inl rfl) ?_
      refine retM_ rfl (by repeat (first | exact ResAll.nil | (apply ResAll.cons; first | exact .tmp rfl | exact .cell rfl rfl | exact .one rfl))) fun w' h' => ?_
      exact ⟨(dv, v_), rfl, RebT.h _ _ (SubM.ent.st h' : St _ _ [row dv 9 (unD bs).1, row v_ 5 q] w')⟩
/-- what is unpacked: strings, the rest, the error -/
def uD (bs : List (BitVec 8)) : List ByteArray := match (unD bs).2 with
  | .ok _ => (unD bs).1
  | .error _ => []
def uR (bs : List (BitVec 8)) : List (BitVec 8) := match (unD bs).2 with
  | .ok q => q
  | .error _ => []
def uE (bs : List (BitVec 8)) : Int := match (unD bs).2 with
  | .ok _ => 0
  | .error e => e
theorem run_Unpack3 (w : World) (v : Value) (bs : List (BitVec 8)) [h : RdOld w [] v bs] (hb : bs.length ≤ 1000000) (d : List ByteArray) (q : List (BitVec 8)) (e : Int) (h0 : uD bs = d ∧ uR bs = q ∧ uE bs = e) :
    Calls Try.prog 37 #[v] w (Ret w [] (fun _ : Value × Value => True) (fun i => .tuple #[i.1, i.2, I e]) (fun i => [row i.1 9 d, row i.2 5 q])) := by
  obtain ⟨rfl, rfl, rfl⟩ := h0
  refine (run_Unpack w v bs hb).mono fun y w' hy => ?_
  unfold uD uR uE
  cases hu : (unD bs).2 with
  | error e =>
    rw [hu] at hy
    obtain ⟨rfl, hst⟩ := hy
    exact .mk (.slice none 0 0, .slice none 0 0) trivial rfl hst
  | ok q =>
    rw [hu] at hy
    obtain ⟨i, rfl, hst⟩ := hy
    exact .mk i trivial rfl hst
theorem ref_Unpack3 (w0 : World) (O : List Nat) (m : List As) (v : Value) (bs : List (BitVec 8)) [h : RdOld w0 O v bs] (hb : bs.length ≤ 1000000) (d : List ByteArray) (q : List (BitVec 8)) (e : Int) (h0 : uD bs = d ∧ uR bs = q ∧ uE bs = e) (w : World) (hw : St w0 O m w) :
    Calls Try.prog 27 #[v] w (fun y w' => ∃ i : Value × OldV w0 O q, True ∧ y = .returned (.agg #[i.1, i.2.v, I e]) ∧ St w0 O (row i.1 9 d :: m) w') := by
  obtain ⟨rfl, rfl, rfl⟩ := h0
  refine (ref_UnpackE w0 O m v bs hb w hw).mono fun y w' hy => ?_
  unfold uD uR uE
  cases hu : (unD bs).2 with
  | error e =>
    rw [hu] at hy
    obtain ⟨rfl, hst⟩ := hy
    exact ⟨(.slice none 0 0, ⟨.slice none 0 0, (⟨rdO_nil w0 O _⟩ : RdOld w0 O (.slice none 0 0) ([] : List (BitVec 8)))⟩), trivial, rfl, SubM.ent.st hst⟩
  | ok q =>
    rw [hu] at hy
    obtain ⟨i, rfl, hst⟩ := hy
    exact ⟨i, trivial, rfl, hst⟩
section
variable {w0 : World} {O : List Nat} {m : List As} {v : Value} {bs q : List (BitVec 8)} {d : List ByteArray} {e : Int}
instance [h : RdR w0 O m v bs] [h1 : Eqn (uD bs) d] [h2 : Eqn (uR bs) q] [h3 : Eqn (uE bs) e] : CallR Try.prog w0 O m 37 [v] (bs.length ≤ 1000000) (fun _ : Value × Value => True) (fun i => .tuple #[i.1, i.2, I e]) (fun i => row i.1 9 d :: row i.2 5 q :: m) :=
  .new (M := fun i : Value × Value => [row i.1 _ d, row i.2 _ q]) fun hs w hw => @run_Unpack3 w v bs (RdOld.of (h.rd w hw)) hs d q e ⟨h1.eq, h2.eq, h3.eq⟩
instance [h : RdOld w0 O v bs] [h1 : Eqn (uD bs) d] [h2 : Eqn (uR bs) q] [h3 : Eqn (uE bs) e] : CallR Try.prog w0 O m 27 [v] (bs.length ≤ 1000000) (ι := Value × OldV w0 O q) (fun _ => True) (fun i => .agg #[i.1, i.2.v, I e]) (fun i => row i.1 9 d :: m) :=
  ⟨fun hs w hw => ref_Unpack3 w0 O m v bs hs d q e ⟨h1.eq, h2.eq, h3.eq⟩ w hw⟩
end
theorem law_unpacked (w : World) (v : Value) (bs : List (BitVec 8)) [h : RdOld w [] v bs] (hb : bs.length ≤ 1000000) (d : List ByteArray) (q : List (BitVec 8)) (e : Int) (h0 : uD bs = d ∧ uR bs = q ∧ uE bs = e) :
    Calls Try.prog 26 #[v] w (Ret w [] (fun _ : Value × Value => True) (fun i => .agg #[i.1, i.2, I e]) (fun i => [row i.1 9 d, row i.2 5 q])) := by
  haveI : Eqn (uD bs) d := ⟨h0.1⟩
  haveI : Eqn (uR bs) q := ⟨h0.2.1⟩
  haveI : Eqn (uE bs) e := ⟨h0.2.2⟩
  refine enter (N := 16) (args := [v]) Try.func26 rfl rfl rfl (St.refl w) ?_
  repeat' (first
  | refine G_nilC ?_
  | refine G_nilN ?_
  | refine G_nilH ?_
  | (refine G_nil ?_; try clear ri_; try clear ops_)
  | (refine V_op ?_; first | exact True.intro | (intro v_ h_ w_ r_ t_; try (obtain ⟨ta_, tb_⟩ := (t_ : _ ∧ _)); try (obtain ⟨tb_, tc_⟩ := (tb_ : _ ∧ _)); try (obtain ⟨tc_, td_⟩ := (tc_ : _ ∧ _)); try (obtain ⟨td_, te_⟩ := (td_ : _ ∧ _))) | intro (ops_ : Array Oper) ri_ | intro (b_ : Bool) hb_ | (intro v_ h_; try (have o_ := FrzK.one h_)) | intro (v_ : Value) | intro (b_ : Nat) | (refine ⟨fun hc => ?_, fun hc => ?_⟩ <;> try (exfalso; omega)) | refine ⟨?_, ?_⟩ | intro _ | skip)
  | (refine Is_DQ ?_; first | (apply DQ_m rfl rfl rfl rfl; focus (intro wq_ Oq_ rq_ mm; (repeat (first | (refine G_nil ?_; exact X_done rfl (List.Sublist.refl _)) | refine V_op ?_)); done)) | (apply DQ_k rfl rfl rfl rfl; intro wq_ Oq_ rq_ mm) | (apply DQ_y rfl rfl rfl rfl; intro wq_ Oq_ rq_ mm)))
  refine ret_ rfl (by repeat (first | exact ResAll.nil | (apply ResAll.cons; first | exact .tmp rfl | exact .cell rfl rfl | exact .one rfl))) fun w' h' => ?_
  exact .mk (_, _) trivial rfl h'
section
variable {w0 : World} {O : List Nat} {m : List As} {v : Value} {bs q : List (BitVec 8)} {d : List ByteArray} {e : Int}
instance [h : RdR w0 O m v bs] [h1 : Eqn (uD bs) d] [h2 : Eqn (uR bs) q] [h3 : Eqn (uE bs) e] : CallR Try.prog w0 O m 26 [v] (bs.length ≤ 1000000) (fun _ : Value × Value => True) (fun i => .agg #[i.1, i.2, I e]) (fun i => row i.1 9 d :: row i.2 5 q :: m) :=
  .new (M := fun i : Value × Value => [row i.1 _ d, row i.2 _ q]) fun hs w hw => @law_unpacked w v bs (RdOld.of (h.rd w hw)) hs d q e ⟨h1.eq, h2.eq, h3.eq⟩
end
end Go.Proofs.Ytnncjfphdcfimaa
