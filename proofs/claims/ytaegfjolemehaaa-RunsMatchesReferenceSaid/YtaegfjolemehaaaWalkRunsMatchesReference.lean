/- The walk of RunsMatchesReference. -/
import Derived.Test.YtaegfjolemehaaaRnp
import Derived.Test.YtaegfjolemehaaaRnq
import Derived.Test.YtaegfjolemehaaaTyps
set_option linter.unusedVariables false
set_option linter.unusedSimpArgs false
set_option maxRecDepth 100000
set_option maxHeartbeats 4000000
namespace Go.Proofs.Ytaegfjolemehaaa
open Go.RowKit
attribute [local irreducible] G GC At wpL DR XPost CPost Cut GA GAR GAX GAt NxA GH GHR NxH
attribute [local irreducible] kd fS encB packB dcB expE

theorem rdOld_exL {w : World} {O : List Nat} {v : Value} {l : List (BitVec 8)} {n : Nat} (h : RdOld w O v l) (hl : l.length ≤ n) : ∃ od : List (BitVec 8), RdOld w O v od ∧ od.length ≤ n := ⟨l, h, hl⟩

theorem walk_RunsMatchesReference (w : World) (a0 : Sl Int) (g0 : Rng.rng a0) [t0 : Tru w [] a0] (z : chapmanlaw04_Odd) (g1 : Rng.rng z) [t1 : Tru w [] z] (k : Ar 2 (BitVec 16)) (g2 : Rng.rng k) [t2 : Tru w [] k] :
    Calls Try.prog 3 #[a0.v, Elt.val z, Elt.val k] w (Is w (.bool true)) := by
  obtain ⟨v0, l, o0⟩ := a0
  haveI h : RdOld w [] v0 l := rdOld_tru (x := ⟨v0, l, o0⟩)
  haveI : One v0 := ⟨o0⟩
  have hok : okI l := g0
  have hlen := h.rd.len_le
  obtain ⟨kl, hk⟩ := k
  obtain ⟨k0, k1, rfl⟩ := list_2 hk
  obtain ⟨⟨⟨vv, vs, ov⟩, ⟨vl, ls, ol⟩⟩, ⟨vb, bs, ob⟩⟩ := z
  haveI hv : RdOld w [] vv vs := rdOld_tru (x := ⟨vv, vs, ov⟩) (h := ⟨t1.h.1.1⟩)
  haveI hl : RdOld w [] vl ls := rdOld_tru (x := ⟨vl, ls, ol⟩) (h := ⟨t1.h.1.2⟩)
  haveI hb : RdOld w [] vb bs := rdOld_tru (x := ⟨vb, bs, ob⟩) (h := ⟨t1.h.2⟩)
  haveI : One vv := ⟨ov⟩
  haveI : One vl := ⟨ol⟩
  haveI : One vb := ⟨ob⟩
  have hvl := hv.rd.len_le
  have hll := hl.rd.len_le
  have hbl := hb.rd.len_le
  show Calls Try.prog 3 #[v0, .agg #[vv, vl, vb], .agg #[.int .u16 (k0.toNat : Int), .int .u16 (k1.toNat : Int)]] w (Is w (.bool true))
  clear g0 g1 g2 t0 t1 t2
  by_cases hs : l.length ≤ 300 ∧ vs.length ≤ 300 ∧ ls.length ≤ 300 ∧ bs.length ≤ 300
  · obtain ⟨s1, s2, s3, s4⟩ := hs
    haveI : Eqn (enB l) (encB l) := ⟨en_small (by omega)⟩
    haveI : Eqn (enE l) 0 := ⟨ee_small (by omega)⟩
    have hp : 0 < (encB l).length := by simp [encB]
    have hap : (encB l ++ bs).length = (encB l).length + bs.length := by simp
    have hmod : k0.toNat % (encB l ++ bs).length < (encB l ++ bs).length := Nat.mod_lt _ (by omega)
    have hle : (encB l).length ≤ 65579 := by have := fB_le (k := kd l) hok (by omega); simp only [encB, List.length_cons]; unfold fS at this; omega
    cases hx : expE vs ls with
    | error e =>
      have he := exp_err hx
      haveI : Eqn (expE vs ls) (.error e) := ⟨hx⟩
      refine enter (N := 144) (args := [v0, .agg #[vv, vl, vb], .agg #[.int .u16 (k0.toNat : Int), .int .u16 (k1.toNat : Int)]]) Try.func3 rfl rfl rfl (St.refl w) ?_
      repeat' (first
  | refine G_nilC ?_
  | refine G_nilN ?_
  | refine G_nilH ?_
  | (refine G_nil ?_; try clear ri_; try clear ops_)
  | (refine V_op ?_; first | exact True.intro | (intro v_ h_ w_ r_ t_; try (obtain ⟨ta_, tb_⟩ := (t_ : _ ∧ _)); try (obtain ⟨tb_, tc_⟩ := (tb_ : _ ∧ _))) | intro (ops_ : Array Oper) ri_ | intro (b_ : Bool) hb_ | intro v_ h_ | intro (v_ : Value) | intro (b_ : Nat) | (refine ⟨fun hc => ?_, fun hc => ?_⟩ <;> try (exfalso; omega)) | refine ⟨?_, ?_⟩ | intro _ | skip)
  | (refine Is_DQ ?_; first | (apply DQ_k rfl rfl rfl; intro mm) | (apply DQ_x rfl rfl rfl; intro mm)))
      rename_i b4 b5 c1 c2 c3 xx hxx b8
      refine GC_cutX (ι := Nat × Nat × Value × Value) (fun _ => True) (fun i => (11, .pointer (some ⟨i.2.1, 0, none⟩)) :: (10, .pointer (some ⟨i.1, 0, none⟩)) :: (9, .pointer (some ⟨b_, 0, none⟩)) :: (8, .pointer (some ⟨b8, 0, none⟩)) :: (46, .agg #[.slice none 0 0, I e]) :: (49, .agg #[.slice none 0 0, I e]) :: (7, .bool true) :: (5, .pointer (some ⟨b5, 0, none⟩)) :: (4, .pointer (some ⟨b4, 0, none⟩)) :: [(0, v0)])
        (fun i => .box i.2.1 (.cells #[.slice none 0 0, I e] 36) :: .box i.1 (.cells #[.slice none 0 0, I e] 36) :: .box b_ (.cells #[v_, I 0] 33) :: .box b8 (.cells #[xx, I 0] 33) :: row v_ 5 (encB l) :: row xx 5 (encB l) :: .box b5 (.cells #[.int .u16 (k0.toNat : Int), .int .u16 (k1.toNat : Int)] 29) :: .box b4 (.cells #[vv, vl, vb] 27) :: []) ?_ ?_
      · haveI := DrH_3_7
        repeat' (first
  | refine G_nilC ?_
  | refine G_nilN ?_
  | refine G_nilH ?_
  | (refine G_nil ?_; try clear ri_; try clear ops_)
  | (refine V_op ?_; first | exact True.intro | (intro v_ h_ w_ r_ t_; try (obtain ⟨ta_, tb_⟩ := (t_ : _ ∧ _)); try (obtain ⟨tb_, tc_⟩ := (tb_ : _ ∧ _))) | intro (ops_ : Array Oper) ri_ | intro (b_ : Bool) hb_ | intro v_ h_ | intro (v_ : Value) | intro (b_ : Nat) | (refine ⟨fun hc => ?_, fun hc => ?_⟩ <;> try (exfalso; omega)) | refine ⟨?_, ?_⟩ | intro _ | skip)
  | (refine Is_DQ ?_; first | (apply DQ_k rfl rfl rfl; intro mm) | (apply DQ_x rfl rfl rfl; intro mm)))
        all_goals exact At_cutX (_, _, .nilIface, .nilIface) trivial (by repeat (first | exact trivial | refine And.intro rfl ?_))
      · rintro ⟨b10, b11, p, q⟩ _
        simp only
        repeat' (first
  | refine G_nilC ?_
  | refine G_nilN ?_
  | refine G_nilH ?_
  | (refine G_nil ?_; try clear ri_; try clear ops_)
  | (refine V_op ?_; first | exact True.intro | (intro v_ h_ w_ r_ t_; try (obtain ⟨ta_, tb_⟩ := (t_ : _ ∧ _)); try (obtain ⟨tb_, tc_⟩ := (tb_ : _ ∧ _))) | intro (ops_ : Array Oper) ri_ | intro (b_ : Bool) hb_ | intro v_ h_ | intro (v_ : Value) | intro (b_ : Nat) | (refine ⟨fun hc => ?_, fun hc => ?_⟩ <;> try (exfalso; omega)) | refine ⟨?_, ?_⟩ | intro _ | skip)
  | (refine Is_DQ ?_; first | (apply DQ_k rfl rfl rfl; intro mm) | (apply DQ_x rfl rfl rfl; intro mm)))
        (first | refine G_frz v_ ?_ | refine GC_frz v_ ?_ | refine At_frz v_ ?_); intro w_ _ _ _
        obtain ⟨od, hod, hodl⟩ := rdOld_exL (n := 66000) ‹RdOld w_ _ v_ (_ : List (BitVec 8))› (by simp only [List.length_set, List.length_append]; omega)
        refine GC_ent (m' := [.box b4 (.cells #[vv, vl, vb] 27)]) SubM.ent ?_
        refine GC_sub (s' := [(12, v_), (7, .bool true), (4, .pointer (some ⟨b4, 0, none⟩))]) (by repeat (first | exact trivial | refine And.intro rfl ?_)) (List.Sublist.refl _) ?_
        generalize foots _ = O1 at *
        rcases hd1 : dcB od with e1 | ⟨l1, o1⟩ <;> rcases hd2 : dcB bs with e2 | ⟨l2, o2⟩
        · refine end_ee w w_ O1 v_ vv vl vb od bs b4 e1 e2 hd1 hd2 _ fun w2 O2 _ => ?_
          repeat' (first
  | refine G_nilC ?_
  | refine G_nilN ?_
  | refine G_nilH ?_
  | (refine G_nil ?_; try clear ri_; try clear ops_)
  | (refine V_op ?_; first | exact True.intro | (intro v_ h_ w_ r_ t_; try (obtain ⟨ta_, tb_⟩ := (t_ : _ ∧ _)); try (obtain ⟨tb_, tc_⟩ := (tb_ : _ ∧ _))) | intro (ops_ : Array Oper) ri_ | intro (b_ : Bool) hb_ | intro v_ h_ | intro (v_ : Value) | intro (b_ : Nat) | (refine ⟨fun hc => ?_, fun hc => ?_⟩ <;> try (exfalso; omega)) | refine ⟨?_, ?_⟩ | intro _ | skip)
  | (refine Is_DQ ?_; first | (apply DQ_k rfl rfl rfl; intro mm) | (apply DQ_x rfl rfl rfl; intro mm)))
          refine ret_ rfl (by repeat (first | exact ResAll.nil | (apply ResAll.cons; first | exact .tmp rfl | exact .cell rfl rfl | exact .one rfl))) fun w' h' => ?_
          exact .mkB rfl h'
        · refine end_eo w w_ O1 v_ vv vl vb od bs b4 e1 l2 o2 hd1 hd2 _ fun w2 O2 _ => ?_
          repeat' (first
  | refine G_nilC ?_
  | refine G_nilN ?_
  | refine G_nilH ?_
  | (refine G_nil ?_; try clear ri_; try clear ops_)
  | (refine V_op ?_; first | exact True.intro | (intro v_ h_ w_ r_ t_; try (obtain ⟨ta_, tb_⟩ := (t_ : _ ∧ _)); try (obtain ⟨tb_, tc_⟩ := (tb_ : _ ∧ _))) | intro (ops_ : Array Oper) ri_ | intro (b_ : Bool) hb_ | intro v_ h_ | intro (v_ : Value) | intro (b_ : Nat) | (refine ⟨fun hc => ?_, fun hc => ?_⟩ <;> try (exfalso; omega)) | refine ⟨?_, ?_⟩ | intro _ | skip)
  | (refine Is_DQ ?_; first | (apply DQ_k rfl rfl rfl; intro mm) | (apply DQ_x rfl rfl rfl; intro mm)))
          refine ret_ rfl (by repeat (first | exact ResAll.nil | (apply ResAll.cons; first | exact .tmp rfl | exact .cell rfl rfl | exact .one rfl))) fun w' h' => ?_
          exact .mkB rfl h'
        · refine end_oe w w_ O1 v_ vv vl vb od bs b4 l1 o1 e2 hd1 hd2 _ fun w2 O2 _ => ?_
          repeat' (first
  | refine G_nilC ?_
  | refine G_nilN ?_
  | refine G_nilH ?_
  | (refine G_nil ?_; try clear ri_; try clear ops_)
  | (refine V_op ?_; first | exact True.intro | (intro v_ h_ w_ r_ t_; try (obtain ⟨ta_, tb_⟩ := (t_ : _ ∧ _)); try (obtain ⟨tb_, tc_⟩ := (tb_ : _ ∧ _))) | intro (ops_ : Array Oper) ri_ | intro (b_ : Bool) hb_ | intro v_ h_ | intro (v_ : Value) | intro (b_ : Nat) | (refine ⟨fun hc => ?_, fun hc => ?_⟩ <;> try (exfalso; omega)) | refine ⟨?_, ?_⟩ | intro _ | skip)
  | (refine Is_DQ ?_; first | (apply DQ_k rfl rfl rfl; intro mm) | (apply DQ_x rfl rfl rfl; intro mm)))
          refine ret_ rfl (by repeat (first | exact ResAll.nil | (apply ResAll.cons; first | exact .tmp rfl | exact .cell rfl rfl | exact .one rfl))) fun w' h' => ?_
          exact .mkB rfl h'
        · refine end_oo w w_ O1 v_ vv vl vb od bs b4 l1 o1 l2 o2 hd1 hd2 _ fun w2 O2 _ => ?_
          repeat' (first
  | refine G_nilC ?_
  | refine G_nilN ?_
  | refine G_nilH ?_
  | (refine G_nil ?_; try clear ri_; try clear ops_)
  | (refine V_op ?_; first | exact True.intro | (intro v_ h_ w_ r_ t_; try (obtain ⟨ta_, tb_⟩ := (t_ : _ ∧ _)); try (obtain ⟨tb_, tc_⟩ := (tb_ : _ ∧ _))) | intro (ops_ : Array Oper) ri_ | intro (b_ : Bool) hb_ | intro v_ h_ | intro (v_ : Value) | intro (b_ : Nat) | (refine ⟨fun hc => ?_, fun hc => ?_⟩ <;> try (exfalso; omega)) | refine ⟨?_, ?_⟩ | intro _ | skip)
  | (refine Is_DQ ?_; first | (apply DQ_k rfl rfl rfl; intro mm) | (apply DQ_x rfl rfl rfl; intro mm)))
          refine ret_ rfl (by repeat (first | exact ResAll.nil | (apply ResAll.cons; first | exact .tmp rfl | exact .cell rfl rfl | exact .one rfl))) fun w' h' => ?_
          exact .mkB rfl h'
    | ok xs =>
      have he := exp_len hx
      haveI : Eqn (expE vs ls) (.ok xs) := ⟨hx⟩
      refine enter (N := 144) (args := [v0, .agg #[vv, vl, vb], .agg #[.int .u16 (k0.toNat : Int), .int .u16 (k1.toNat : Int)]]) Try.func3 rfl rfl rfl (St.refl w) ?_
      repeat' (first
  | refine G_nilC ?_
  | refine G_nilN ?_
  | refine G_nilH ?_
  | (refine G_nil ?_; try clear ri_; try clear ops_)
  | (refine V_op ?_; first | exact True.intro | (intro v_ h_ w_ r_ t_; try (obtain ⟨ta_, tb_⟩ := (t_ : _ ∧ _)); try (obtain ⟨tb_, tc_⟩ := (tb_ : _ ∧ _))) | intro (ops_ : Array Oper) ri_ | intro (b_ : Bool) hb_ | intro v_ h_ | intro (v_ : Value) | intro (b_ : Nat) | (refine ⟨fun hc => ?_, fun hc => ?_⟩ <;> try (exfalso; omega)) | refine ⟨?_, ?_⟩ | intro _ | skip)
  | (refine Is_DQ ?_; first | (apply DQ_k rfl rfl rfl; intro mm) | (apply DQ_x rfl rfl rfl; intro mm)))
      rename_i b4 b5 c1 c2 c3 xx hxx b8
      refine GC_cutX (ι := Nat × Nat × Value × Value) (fun _ => True) (fun i => (11, .pointer (some ⟨i.2.1, 0, none⟩)) :: (10, .pointer (some ⟨i.1, 0, none⟩)) :: (9, .pointer (some ⟨b_, 0, none⟩)) :: (8, .pointer (some ⟨b8, 0, none⟩)) :: (46, .agg #[i.2.2.1, I 0]) :: (49, .agg #[i.2.2.2, I 0]) :: (7, .bool true) :: (5, .pointer (some ⟨b5, 0, none⟩)) :: (4, .pointer (some ⟨b4, 0, none⟩)) :: [(0, v0)])
        (fun i => .box i.2.1 (.cells #[i.2.2.2, I 0] 36) :: .box i.1 (.cells #[i.2.2.1, I 0] 36) :: row i.2.2.2 3 xs :: row i.2.2.1 3 xs :: .box b_ (.cells #[v_, I 0] 33) :: .box b8 (.cells #[xx, I 0] 33) :: row v_ 5 (encB l) :: row xx 5 (encB l) :: .box b5 (.cells #[.int .u16 (k0.toNat : Int), .int .u16 (k1.toNat : Int)] 29) :: .box b4 (.cells #[vv, vl, vb] 27) :: []) ?_ ?_
      · haveI := DrH_3_7
        repeat' (first
  | refine G_nilC ?_
  | refine G_nilN ?_
  | refine G_nilH ?_
  | (refine G_nil ?_; try clear ri_; try clear ops_)
  | (refine V_op ?_; first | exact True.intro | (intro v_ h_ w_ r_ t_; try (obtain ⟨ta_, tb_⟩ := (t_ : _ ∧ _)); try (obtain ⟨tb_, tc_⟩ := (tb_ : _ ∧ _))) | intro (ops_ : Array Oper) ri_ | intro (b_ : Bool) hb_ | intro v_ h_ | intro (v_ : Value) | intro (b_ : Nat) | (refine ⟨fun hc => ?_, fun hc => ?_⟩ <;> try (exfalso; omega)) | refine ⟨?_, ?_⟩ | intro _ | skip)
  | (refine Is_DQ ?_; first | (apply DQ_k rfl rfl rfl; intro mm) | (apply DQ_x rfl rfl rfl; intro mm)))
        all_goals exact At_cutX (_, _, _, _) trivial (by repeat (first | exact trivial | refine And.intro rfl ?_))
      · rintro ⟨b10, b11, p, q⟩ _
        simp only
        repeat' (first
  | refine G_nilC ?_
  | refine G_nilN ?_
  | refine G_nilH ?_
  | (refine G_nil ?_; try clear ri_; try clear ops_)
  | (refine V_op ?_; first | exact True.intro | (intro v_ h_ w_ r_ t_; try (obtain ⟨ta_, tb_⟩ := (t_ : _ ∧ _)); try (obtain ⟨tb_, tc_⟩ := (tb_ : _ ∧ _))) | intro (ops_ : Array Oper) ri_ | intro (b_ : Bool) hb_ | intro v_ h_ | intro (v_ : Value) | intro (b_ : Nat) | (refine ⟨fun hc => ?_, fun hc => ?_⟩ <;> try (exfalso; omega)) | refine ⟨?_, ?_⟩ | intro _ | skip)
  | (refine Is_DQ ?_; first | (apply DQ_k rfl rfl rfl; intro mm) | (apply DQ_x rfl rfl rfl; intro mm)))
        (first | refine G_frz v_ ?_ | refine GC_frz v_ ?_ | refine At_frz v_ ?_); intro w_ _ _ _
        obtain ⟨od, hod, hodl⟩ := rdOld_exL (n := 66000) ‹RdOld w_ _ v_ (_ : List (BitVec 8))› (by simp only [List.length_set, List.length_append]; omega)
        refine GC_ent (m' := [.box b4 (.cells #[vv, vl, vb] 27)]) SubM.ent ?_
        refine GC_sub (s' := [(12, v_), (7, .bool true), (4, .pointer (some ⟨b4, 0, none⟩))]) (by repeat (first | exact trivial | refine And.intro rfl ?_)) (List.Sublist.refl _) ?_
        generalize foots _ = O1 at *
        rcases hd1 : dcB od with e1 | ⟨l1, o1⟩ <;> rcases hd2 : dcB bs with e2 | ⟨l2, o2⟩
        · refine end_ee w w_ O1 v_ vv vl vb od bs b4 e1 e2 hd1 hd2 _ fun w2 O2 _ => ?_
          repeat' (first
  | refine G_nilC ?_
  | refine G_nilN ?_
  | refine G_nilH ?_
  | (refine G_nil ?_; try clear ri_; try clear ops_)
  | (refine V_op ?_; first | exact True.intro | (intro v_ h_ w_ r_ t_; try (obtain ⟨ta_, tb_⟩ := (t_ : _ ∧ _)); try (obtain ⟨tb_, tc_⟩ := (tb_ : _ ∧ _))) | intro (ops_ : Array Oper) ri_ | intro (b_ : Bool) hb_ | intro v_ h_ | intro (v_ : Value) | intro (b_ : Nat) | (refine ⟨fun hc => ?_, fun hc => ?_⟩ <;> try (exfalso; omega)) | refine ⟨?_, ?_⟩ | intro _ | skip)
  | (refine Is_DQ ?_; first | (apply DQ_k rfl rfl rfl; intro mm) | (apply DQ_x rfl rfl rfl; intro mm)))
          refine ret_ rfl (by repeat (first | exact ResAll.nil | (apply ResAll.cons; first | exact .tmp rfl | exact .cell rfl rfl | exact .one rfl))) fun w' h' => ?_
          exact .mkB rfl h'
        · refine end_eo w w_ O1 v_ vv vl vb od bs b4 e1 l2 o2 hd1 hd2 _ fun w2 O2 _ => ?_
          repeat' (first
  | refine G_nilC ?_
  | refine G_nilN ?_
  | refine G_nilH ?_
  | (refine G_nil ?_; try clear ri_; try clear ops_)
  | (refine V_op ?_; first | exact True.intro | (intro v_ h_ w_ r_ t_; try (obtain ⟨ta_, tb_⟩ := (t_ : _ ∧ _)); try (obtain ⟨tb_, tc_⟩ := (tb_ : _ ∧ _))) | intro (ops_ : Array Oper) ri_ | intro (b_ : Bool) hb_ | intro v_ h_ | intro (v_ : Value) | intro (b_ : Nat) | (refine ⟨fun hc => ?_, fun hc => ?_⟩ <;> try (exfalso; omega)) | refine ⟨?_, ?_⟩ | intro _ | skip)
  | (refine Is_DQ ?_; first | (apply DQ_k rfl rfl rfl; intro mm) | (apply DQ_x rfl rfl rfl; intro mm)))
          refine ret_ rfl (by repeat (first | exact ResAll.nil | (apply ResAll.cons; first | exact .tmp rfl | exact .cell rfl rfl | exact .one rfl))) fun w' h' => ?_
          exact .mkB rfl h'
        · refine end_oe w w_ O1 v_ vv vl vb od bs b4 l1 o1 e2 hd1 hd2 _ fun w2 O2 _ => ?_
          repeat' (first
  | refine G_nilC ?_
  | refine G_nilN ?_
  | refine G_nilH ?_
  | (refine G_nil ?_; try clear ri_; try clear ops_)
  | (refine V_op ?_; first | exact True.intro | (intro v_ h_ w_ r_ t_; try (obtain ⟨ta_, tb_⟩ := (t_ : _ ∧ _)); try (obtain ⟨tb_, tc_⟩ := (tb_ : _ ∧ _))) | intro (ops_ : Array Oper) ri_ | intro (b_ : Bool) hb_ | intro v_ h_ | intro (v_ : Value) | intro (b_ : Nat) | (refine ⟨fun hc => ?_, fun hc => ?_⟩ <;> try (exfalso; omega)) | refine ⟨?_, ?_⟩ | intro _ | skip)
  | (refine Is_DQ ?_; first | (apply DQ_k rfl rfl rfl; intro mm) | (apply DQ_x rfl rfl rfl; intro mm)))
          refine ret_ rfl (by repeat (first | exact ResAll.nil | (apply ResAll.cons; first | exact .tmp rfl | exact .cell rfl rfl | exact .one rfl))) fun w' h' => ?_
          exact .mkB rfl h'
        · refine end_oo w w_ O1 v_ vv vl vb od bs b4 l1 o1 l2 o2 hd1 hd2 _ fun w2 O2 _ => ?_
          repeat' (first
  | refine G_nilC ?_
  | refine G_nilN ?_
  | refine G_nilH ?_
  | (refine G_nil ?_; try clear ri_; try clear ops_)
  | (refine V_op ?_; first | exact True.intro | (intro v_ h_ w_ r_ t_; try (obtain ⟨ta_, tb_⟩ := (t_ : _ ∧ _)); try (obtain ⟨tb_, tc_⟩ := (tb_ : _ ∧ _))) | intro (ops_ : Array Oper) ri_ | intro (b_ : Bool) hb_ | intro v_ h_ | intro (v_ : Value) | intro (b_ : Nat) | (refine ⟨fun hc => ?_, fun hc => ?_⟩ <;> try (exfalso; omega)) | refine ⟨?_, ?_⟩ | intro _ | skip)
  | (refine Is_DQ ?_; first | (apply DQ_k rfl rfl rfl; intro mm) | (apply DQ_x rfl rfl rfl; intro mm)))
          refine ret_ rfl (by repeat (first | exact ResAll.nil | (apply ResAll.cons; first | exact .tmp rfl | exact .cell rfl rfl | exact .one rfl))) fun w' h' => ?_
          exact .mkB rfl h'
  · refine enter (N := 144) (args := [v0, .agg #[vv, vl, vb], .agg #[.int .u16 (k0.toNat : Int), .int .u16 (k1.toNat : Int)]]) Try.func3 rfl rfl rfl (St.refl w) ?_
    repeat' (first
  | refine G_nilC ?_
  | refine G_nilN ?_
  | refine G_nilH ?_
  | (refine G_nil ?_; try clear ri_; try clear ops_)
  | (refine V_op ?_; first | exact True.intro | (intro v_ h_ w_ r_ t_; try (obtain ⟨ta_, tb_⟩ := (t_ : _ ∧ _)); try (obtain ⟨tb_, tc_⟩ := (tb_ : _ ∧ _))) | intro (ops_ : Array Oper) ri_ | intro (b_ : Bool) hb_ | intro v_ h_ | intro (v_ : Value) | intro (b_ : Nat) | (refine ⟨fun hc => ?_, fun hc => ?_⟩ <;> try (exfalso; omega)) | refine ⟨?_, ?_⟩ | intro _ | skip)
  | (refine Is_DQ ?_; first | (apply DQ_k rfl rfl rfl; intro mm) | (apply DQ_x rfl rfl rfl; intro mm)))
    all_goals
      refine ret_ rfl (by repeat (first | exact ResAll.nil | (apply ResAll.cons; first | exact .tmp rfl | exact .cell rfl rfl | exact .one rfl))) fun w' h' => ?_
      exact .mk rfl h'
end Go.Proofs.Ytaegfjolemehaaa
