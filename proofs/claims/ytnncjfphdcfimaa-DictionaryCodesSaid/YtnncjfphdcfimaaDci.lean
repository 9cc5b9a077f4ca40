/- Dictionary: Unpack in the reference. -/
import Derived.Test.YtnncjfphdcfimaaDcg
set_option linter.unusedVariables false
set_option linter.unusedSimpArgs false
set_option maxRecDepth 100000
set_option maxHeartbeats 4000000
namespace Go.Proofs.Ytnncjfphdcfimaa
open Go.RowKit
attribute [local irreducible] G GC At wpL DR XPost CPost Cut GA GAR GAX GAt NxA GH GHR NxH
attribute [local irreducible] ofD srtL cmpL

instance (priority := high) convR_small {P : Program} {t t' : TypeId} {ut : TypeDesc} {p : BitVec 64} [h1 : Und P t ut] [h2 : Und P t' (.int .i64)] [hp : Fct (p.toNat ≤ 1000000)] : ConvR P t t' (.int .u64 (p.toNat : Int)) True (I p.toNat) := ⟨fun _ w => conv_int (IntWalk.i64_in _ (by have := hp.out; omega)) w⟩
theorem ref_UnpackE (w0 : World) (O : List Nat) (m : List As) (v : Value) (bs : List (BitVec 8)) [h : RdOld w0 O v bs] (hb : bs.length ≤ 1000000) (w : World) (hw : St w0 O m w) :
    Calls Try.prog 27 #[v] w (fun y w' => match (unD bs).2 with
      | .ok q => ∃ i : Value × OldV w0 O q, y = .returned (.agg #[i.1, i.2.v, I 0]) ∧ St w0 O (row i.1 9 (unD bs).1 :: m) w'
      | .error e => y = .returned (.agg #[.slice none 0 0, .slice none 0 0, I e]) ∧ St w0 O m w') := by
  have hlen := h.rd.len_le
  cases h1 : rdB bs with
  | error e =>
    have he := rd_err h1
    have hu : unD bs = ([], .error e) := by rw [unD, h1]
    haveI : Eqn (rdB bs) (.error e) := ⟨h1⟩
    rw [hu]
    refine enterF (N := 123) (args := [v]) Try.func27 rfl rfl rfl hw ?_
    repeat' (first
  | refine G_nilC ?_
  | refine G_nilN ?_
  | refine G_nilH ?_
  | (refine G_nil ?_; try clear ri_; try clear ops_)
  | (refine V_op ?_; first | exact True.intro | (intro v_ h_ w_ r_ t_; try (obtain ⟨ta_, tb_⟩ := (t_ : _ ∧ _)); try (obtain ⟨tb_, tc_⟩ := (tb_ : _ ∧ _)); try (obtain ⟨tc_, td_⟩ := (tc_ : _ ∧ _)); try (obtain ⟨td_, te_⟩ := (td_ : _ ∧ _))) | intro (ops_ : Array Oper) ri_ | intro (b_ : Bool) hb_ | (intro v_ h_; try (have o_ := FrzK.one h_)) | intro (v_ : Value) | intro (b_ : Nat) | (refine ⟨fun hc => ?_, fun hc => ?_⟩ <;> try (exfalso; omega)) | refine ⟨?_, ?_⟩ | intro _ | skip)
  | (refine Is_DQ ?_; first | (apply DQ_m rfl rfl rfl rfl; focus (intro wq_ Oq_ rq_ mm; (repeat (first | (refine G_nil ?_; exact X_done rfl (List.Sublist.refl _)) | refine V_op ?_)); done)) | (apply DQ_k rfl rfl rfl rfl; intro wq_ Oq_ rq_ mm) | (apply DQ_y rfl rfl rfl rfl; intro wq_ Oq_ rq_ mm)))
    refine ret_ rfl (by repeat (first | exact ResAll.nil | (apply ResAll.cons; first | exact .tmp rfl | exact .cell rfl rfl | exact .one rfl))) fun w' h' => ?_
    exact ⟨rfl, SubM.ent.st h'⟩
  | ok p =>
    obtain ⟨u, k0⟩ := p
    haveI : Eqn (rdB bs) (.ok (u, k0)) := ⟨h1⟩
    have hk0 := rdB_le h1
    by_cases hu : 4096 < u.toNat
    · have hun : unD bs = ([], .error 5) := by rw [unD, h1]; simp only; rw [if_pos hu]
      rw [hun]
      refine enterF (N := 123) (args := [v]) Try.func27 rfl rfl rfl hw ?_
      repeat' (first
  | refine G_nilC ?_
  | refine G_nilN ?_
  | refine G_nilH ?_
  | (refine G_nil ?_; try clear ri_; try clear ops_)
  | (refine V_op ?_; first | exact True.intro | (intro v_ h_ w_ r_ t_; try (obtain ⟨ta_, tb_⟩ := (t_ : _ ∧ _)); try (obtain ⟨tb_, tc_⟩ := (tb_ : _ ∧ _)); try (obtain ⟨tc_, td_⟩ := (tc_ : _ ∧ _)); try (obtain ⟨td_, te_⟩ := (td_ : _ ∧ _))) | intro (ops_ : Array Oper) ri_ | intro (b_ : Bool) hb_ | (intro v_ h_; try (have o_ := FrzK.one h_)) | intro (v_ : Value) | intro (b_ : Nat) | (refine ⟨fun hc => ?_, fun hc => ?_⟩ <;> try (exfalso; omega)) | refine ⟨?_, ?_⟩ | intro _ | skip)
  | (refine Is_DQ ?_; first | (apply DQ_m rfl rfl rfl rfl; focus (intro wq_ Oq_ rq_ mm; (repeat (first | (refine G_nil ?_; exact X_done rfl (List.Sublist.refl _)) | refine V_op ?_)); done)) | (apply DQ_k rfl rfl rfl rfl; intro wq_ Oq_ rq_ mm) | (apply DQ_y rfl rfl rfl rfl; intro wq_ Oq_ rq_ mm)))
      refine ret_ rfl (by repeat (first | exact ResAll.nil | (apply ResAll.cons; first | exact .tmp rfl | exact .cell rfl rfl | exact .one rfl))) fun w' h' => ?_
      exact ⟨rfl, SubM.ent.st h'⟩
    · have hun : unD bs = unS u.toNat true [] (bs.drop k0) := by rw [unD, h1]; simp only; rw [if_neg hu]
      haveI : Fct (u.toNat ≤ 1000000) := ⟨by omega⟩
      refine enterF (N := 123) (args := [v]) Try.func27 rfl rfl rfl hw ?_
      repeat' (first
  | refine G_nilC ?_
  | refine G_nilN ?_
  | refine G_nilH ?_
  | (refine G_nil ?_; try clear ri_; try clear ops_)
  | (refine V_op ?_; first | exact True.intro | (intro v_ h_ w_ r_ t_; try (obtain ⟨ta_, tb_⟩ := (t_ : _ ∧ _)); try (obtain ⟨tb_, tc_⟩ := (tb_ : _ ∧ _)); try (obtain ⟨tc_, td_⟩ := (tc_ : _ ∧ _)); try (obtain ⟨td_, te_⟩ := (td_ : _ ∧ _))) | intro (ops_ : Array Oper) ri_ | intro (b_ : Bool) hb_ | (intro v_ h_; try (have o_ := FrzK.one h_)) | intro (v_ : Value) | intro (b_ : Nat) | (refine ⟨fun hc => ?_, fun hc => ?_⟩ <;> try (exfalso; omega)) | refine ⟨?_, ?_⟩ | intro _ | skip)
  | (refine Is_DQ ?_; first | (apply DQ_m rfl rfl rfl rfl; focus (intro wq_ Oq_ rq_ mm; (repeat (first | (refine G_nil ?_; exact X_done rfl (List.Sublist.refl _)) | refine V_op ?_)); done)) | (apply DQ_k rfl rfl rfl rfl; intro wq_ Oq_ rq_ mm) | (apply DQ_y rfl rfl rfl rfl; intro wq_ Oq_ rq_ mm)))
      refine GC_loopS (X := Nat × Value × Value × ByteArray × List (BitVec 8) × List ByteArray) (fun y => y.1 ≤ u.toNat ∧ y.2.2.2.2.2.length = y.1 ∧ (bL y.2.2.2.1).length ≤ 255 ∧ y.2.2.2.2.1.length ≤ 1000000 ∧ RdOld w0 O y.2.2.1 y.2.2.2.2.1 ∧
          unD bs = (y.2.2.2.2.2 ++ (unS (u.toNat - y.1) (decide (y.1 = 0)) (bL y.2.2.2.1) y.2.2.2.2.1).1, (unS (u.toNat - y.1) (decide (y.1 = 0)) (bL y.2.2.2.1) y.2.2.2.2.1).2))
        (fun y s => (6, I y.1) :: (5, .string y.2.2.2.1) :: s) (fun y q => .box b_ (.cells #[y.2.1, y.2.2.1, I 0] 48) :: row y.2.1 9 y.2.2.2.2.2 :: q) (fun y => u.toNat - y.1) (0, .slice none 0 0, cut (BitVec 8) v k0 bs.length, ⟨#[]⟩, bs.drop k0, [])
        ⟨Nat.zero_le _, rfl, Nat.zero_le _, by simp only [List.length_drop]; omega, h.rest hk0.2, by rw [hun]; rfl⟩ (by repeat (first | exact trivial | refine And.intro rfl ?_)) ?_ (want := [.box b_ (.cells #[.slice none 0 0, cut (BitVec 8) v k0 bs.length, I 0] 48), row (.slice none 0 0) 9 ([] : List ByteArray)]) (hm0 := rfl)
      rintro ⟨k, dv, qv, bf, q, acc⟩ ⟨a1, a2, a3, a4, a5, a6⟩
      simp only at a1 a2 a3 a4 a5 a6 ⊢
      by_cases hk : k < u.toNat
      · obtain ⟨n, hn⟩ : ∃ n, u.toNat - k = n + 1 := ⟨u.toNat - k - 1, by omega⟩
        rw [hn, unS] at a6
        cases h2 : rdB q with
        | error e =>
          haveI : Eqn (rdB q) (.error e) := ⟨h2⟩
          have he := rd_err h2
          have ho : oneS (decide (k = 0)) (bL bf) q = .error e := by rw [oneS, h2]
          rw [ho] at a6
          simp only [List.append_nil] at a6
          rw [a6]
          repeat' (first
  | refine G_nilC ?_
  | refine G_nilN ?_
  | refine G_nilH ?_
  | (refine G_nil ?_; try clear ri_; try clear ops_)
  | (refine V_op ?_; first | exact True.intro | (intro v_ h_ w_ r_ t_; try (obtain ⟨ta_, tb_⟩ := (t_ : _ ∧ _)); try (obtain ⟨tb_, tc_⟩ := (tb_ : _ ∧ _)); try (obtain ⟨tc_, td_⟩ := (tc_ : _ ∧ _)); try (obtain ⟨td_, te_⟩ := (td_ : _ ∧ _))) | intro (ops_ : Array Oper) ri_ | intro (b_ : Bool) hb_ | (intro v_ h_; try (have o_ := FrzK.one h_)) | intro (v_ : Value) | intro (b_ : Nat) | (refine ⟨fun hc => ?_, fun hc => ?_⟩ <;> try (exfalso; omega)) | refine ⟨?_, ?_⟩ | intro _ | skip)
  | (refine Is_DQ ?_; first | (apply DQ_m rfl rfl rfl rfl; focus (intro wq_ Oq_ rq_ mm; (repeat (first | (refine G_nil ?_; exact X_done rfl (List.Sublist.refl _)) | refine V_op ?_)); done)) | (apply DQ_k rfl rfl rfl rfl; intro wq_ Oq_ rq_ mm) | (apply DQ_y rfl rfl rfl rfl; intro wq_ Oq_ rq_ mm)))
          refine ret_ rfl (by repeat (first | exact ResAll.nil | (apply ResAll.cons; first | exact .tmp rfl | exact .cell rfl rfl | exact .one rfl))) fun w' h' => ?_
          exact ⟨rfl, SubM.ent.st h'⟩
        | ok p2 =>
          obtain ⟨u2, k2⟩ := p2
          haveI : Eqn (rdB q) (.ok (u2, k2)) := ⟨h2⟩
          have hk2 := rdB_le h2
          cases h3 : rdB (q.drop k2) with
          | error e =>
            haveI : Eqn (rdB (q.drop k2)) (.error e) := ⟨h3⟩
            have he := rd_err h3
            have ho : oneS (decide (k = 0)) (bL bf) q = .error e := by rw [oneS, h2]; simp only; rw [h3]
            rw [ho] at a6
            simp only [List.append_nil] at a6
            rw [a6]
            repeat' (first
  | refine G_nilC ?_
  | refine G_nilN ?_
  | refine G_nilH ?_
  | (refine G_nil ?_; try clear ri_; try clear ops_)
  | (refine V_op ?_; first | exact True.intro | (intro v_ h_ w_ r_ t_; try (obtain ⟨ta_, tb_⟩ := (t_ : _ ∧ _)); try (obtain ⟨tb_, tc_⟩ := (tb_ : _ ∧ _)); try (obtain ⟨tc_, td_⟩ := (tc_ : _ ∧ _)); try (obtain ⟨td_, te_⟩ := (td_ : _ ∧ _))) | intro (ops_ : Array Oper) ri_ | intro (b_ : Bool) hb_ | (intro v_ h_; try (have o_ := FrzK.one h_)) | intro (v_ : Value) | intro (b_ : Nat) | (refine ⟨fun hc => ?_, fun hc => ?_⟩ <;> try (exfalso; omega)) | refine ⟨?_, ?_⟩ | intro _ | skip)
  | (refine Is_DQ ?_; first | (apply DQ_m rfl rfl rfl rfl; focus (intro wq_ Oq_ rq_ mm; (repeat (first | (refine G_nil ?_; exact X_done rfl (List.Sublist.refl _)) | refine V_op ?_)); done)) | (apply DQ_k rfl rfl rfl rfl; intro wq_ Oq_ rq_ mm) | (apply DQ_y rfl rfl rfl rfl; intro wq_ Oq_ rq_ mm)))
            refine ret_ rfl (by repeat (first | exact ResAll.nil | (apply ResAll.cons; first | exact .tmp rfl | exact .cell rfl rfl | exact .one rfl))) fun w' h' => ?_
            exact ⟨rfl, SubM.ent.st h'⟩
          | ok p3 =>
            obtain ⟨v3, j3⟩ := p3
            haveI : Eqn (rdB (q.drop k2)) (.ok (v3, j3)) := ⟨h3⟩
            have hj3 := rdB_le h3
            have hr2 := a5.rest hk2.2
            have hql : (q.drop k2).length = q.length - k2 := List.length_drop
            haveI hrr : RdOld w0 O (cut (BitVec 8) (cut (BitVec 8) qv k2 q.length) j3 (q.drop k2).length) ((q.drop k2).drop j3) := hr2.rest hj3.2
            have hbn : (BitVec.ofNat 64 (bL bf).length).toNat = (bL bf).length := nat64 (by omega)
            by_cases hc1 : (bL bf).length < u2.toNat
            · have ho : oneS (decide (k = 0)) (bL bf) q = .error 5 := by rw [oneS, h2]; simp only; rw [h3]; simp only; rw [if_pos (.inl hc1)]
              rw [ho] at a6
              simp only [List.append_nil] at a6
              rw [a6]
              repeat' (first
  | refine G_nilC ?_
  | refine G_nilN ?_
  | refine G_nilH ?_
  | (refine G_nil ?_; try clear ri_; try clear ops_)
  | (refine V_op ?_; first | exact True.intro | (intro v_ h_ w_ r_ t_; try (obtain ⟨ta_, tb_⟩ := (t_ : _ ∧ _)); try (obtain ⟨tb_, tc_⟩ := (tb_ : _ ∧ _)); try (obtain ⟨tc_, td_⟩ := (tc_ : _ ∧ _)); try (obtain ⟨td_, te_⟩ := (td_ : _ ∧ _))) | intro (ops_ : Array Oper) ri_ | intro (b_ : Bool) hb_ | (intro v_ h_; try (have o_ := FrzK.one h_)) | intro (v_ : Value) | intro (b_ : Nat) | (refine ⟨fun hc => ?_, fun hc => ?_⟩ <;> try (exfalso; omega)) | refine ⟨?_, ?_⟩ | intro _ | skip)
  | (refine Is_DQ ?_; first | (apply DQ_m rfl rfl rfl rfl; focus (intro wq_ Oq_ rq_ mm; (repeat (first | (refine G_nil ?_; exact X_done rfl (List.Sublist.refl _)) | refine V_op ?_)); done)) | (apply DQ_k rfl rfl rfl rfl; intro wq_ Oq_ rq_ mm) | (apply DQ_y rfl rfl rfl rfl; intro wq_ Oq_ rq_ mm)))
              refine ret_ rfl (by repeat (first | exact ResAll.nil | (apply ResAll.cons; first | exact .tmp rfl | exact .cell rfl rfl | exact .one rfl))) fun w' h' => ?_
              exact ⟨rfl, SubM.ent.st h'⟩
            · by_cases hv3 : 255 < v3.toNat
              · have ho : oneS (decide (k = 0)) (bL bf) q = .error 5 := by rw [oneS, h2]; simp only; rw [h3]; simp only; rw [if_pos (.inr (by omega))]
                rw [ho] at a6
                simp only [List.append_nil] at a6
                rw [a6]
                repeat' (first
  | refine G_nilC ?_
  | refine G_nilN ?_
  | refine G_nilH ?_
  | (refine G_nil ?_; try clear ri_; try clear ops_)
  | (refine V_op ?_; first | exact True.intro | (intro v_ h_ w_ r_ t_; try (obtain ⟨ta_, tb_⟩ := (t_ : _ ∧ _)); try (obtain ⟨tb_, tc_⟩ := (tb_ : _ ∧ _)); try (obtain ⟨tc_, td_⟩ := (tc_ : _ ∧ _)); try (obtain ⟨td_, te_⟩ := (td_ : _ ∧ _))) | intro (ops_ : Array Oper) ri_ | intro (b_ : Bool) hb_ | (intro v_ h_; try (have o_ := FrzK.one h_)) | intro (v_ : Value) | intro (b_ : Nat) | (refine ⟨fun hc => ?_, fun hc => ?_⟩ <;> try (exfalso; omega)) | refine ⟨?_, ?_⟩ | intro _ | skip)
  | (refine Is_DQ ?_; first | (apply DQ_m rfl rfl rfl rfl; focus (intro wq_ Oq_ rq_ mm; (repeat (first | (refine G_nil ?_; exact X_done rfl (List.Sublist.refl _)) | refine V_op ?_)); done)) | (apply DQ_k rfl rfl rfl rfl; intro wq_ Oq_ rq_ mm) | (apply DQ_y rfl rfl rfl rfl; intro wq_ Oq_ rq_ mm)))
                refine ret_ rfl (by repeat (first | exact ResAll.nil | (apply ResAll.cons; first | exact .tmp rfl | exact .cell rfl rfl | exact .one rfl))) fun w' h' => ?_
                exact ⟨rfl, SubM.ent.st h'⟩
              · have hadd : (u2 + v3).toNat = u2.toNat + v3.toNat := by rw [BitVec.toNat_add]; omega
                by_cases hc2 : 255 < u2.toNat + v3.toNat
                · have ho : oneS (decide (k = 0)) (bL bf) q = .error 5 := by rw [oneS, h2]; simp only; rw [h3]; simp only; rw [if_pos (.inr hc2)]
                  rw [ho] at a6
                  simp only [List.append_nil] at a6
                  rw [a6]
                  repeat' (first
  | refine G_nilC ?_
  | refine G_nilN ?_
  | refine G_nilH ?_
  | (refine G_nil ?_; try clear ri_; try clear ops_)
  | (refine V_op ?_; first | exact True.intro | (intro v_ h_ w_ r_ t_; try (obtain ⟨ta_, tb_⟩ := (t_ : _ ∧ _)); try (obtain ⟨tb_, tc_⟩ := (tb_ : _ ∧ _)); try (obtain ⟨tc_, td_⟩ := (tc_ : _ ∧ _)); try (obtain ⟨td_, te_⟩ := (td_ : _ ∧ _))) | intro (ops_ : Array Oper) ri_ | intro (b_ : Bool) hb_ | (intro v_ h_; try (have o_ := FrzK.one h_)) | intro (v_ : Value) | intro (b_ : Nat) | (refine ⟨fun hc => ?_, fun hc => ?_⟩ <;> try (exfalso; omega)) | refine ⟨?_, ?_⟩ | intro _ | skip)
  | (refine Is_DQ ?_; first | (apply DQ_m rfl rfl rfl rfl; focus (intro wq_ Oq_ rq_ mm; (repeat (first | (refine G_nil ?_; exact X_done rfl (List.Sublist.refl _)) | refine V_op ?_)); done)) | (apply DQ_k rfl rfl rfl rfl; intro wq_ Oq_ rq_ mm) | (apply DQ_y rfl rfl rfl rfl; intro wq_ Oq_ rq_ mm)))
                  refine ret_ rfl (by repeat (first | exact ResAll.nil | (apply ResAll.cons; first | exact .tmp rfl | exact .cell rfl rfl | exact .one rfl))) fun w' h' => ?_
                  exact ⟨rfl, SubM.ent.st h'⟩
                · have hcn : ¬ ((bL bf).length < u2.toNat ∨ 255 < u2.toNat + v3.toNat) := by omega
                  haveI : Fct (u2.toNat ≤ 1000000) := ⟨by omega⟩
                  haveI : Fct (v3.toNat ≤ 1000000) := ⟨by omega⟩
                  by_cases hc3 : ((q.drop k2).drop j3).length < v3.toNat
                  · have ho : oneS (decide (k = 0)) (bL bf) q = .error 7 := by rw [oneS, h2]; simp only; rw [h3]; simp only; rw [if_neg hcn, if_pos hc3]
                    rw [ho] at a6
                    simp only [List.append_nil] at a6
                    rw [a6]
                    repeat' (first
  | refine G_nilC ?_
  | refine G_nilN ?_
  | refine G_nilH ?_
  | (refine G_nil ?_; try clear ri_; try clear ops_)
  | (refine V_op ?_; first | exact True.intro | (intro v_ h_ w_ r_ t_; try (obtain ⟨ta_, tb_⟩ := (t_ : _ ∧ _)); try (obtain ⟨tb_, tc_⟩ := (tb_ : _ ∧ _)); try (obtain ⟨tc_, td_⟩ := (tc_ : _ ∧ _)); try (obtain ⟨td_, te_⟩ := (td_ : _ ∧ _))) | intro (ops_ : Array Oper) ri_ | intro (b_ : Bool) hb_ | (intro v_ h_; try (have o_ := FrzK.one h_)) | intro (v_ : Value) | intro (b_ : Nat) | (refine ⟨fun hc => ?_, fun hc => ?_⟩ <;> try (exfalso; omega)) | refine ⟨?_, ?_⟩ | intro _ | skip)
  | (refine Is_DQ ?_; first | (apply DQ_m rfl rfl rfl rfl; focus (intro wq_ Oq_ rq_ mm; (repeat (first | (refine G_nil ?_; exact X_done rfl (List.Sublist.refl _)) | refine V_op ?_)); done)) | (apply DQ_k rfl rfl rfl rfl; intro wq_ Oq_ rq_ mm) | (apply DQ_y rfl rfl rfl rfl; intro wq_ Oq_ rq_ mm)))
                    refine ret_ rfl (by repeat (first | exact ResAll.nil | (apply ResAll.cons; first | exact .tmp rfl | exact .cell rfl rfl | exact .one rfl))) fun w' h' => ?_
                    exact ⟨rfl, SubM.ent.st h'⟩
                  · obtain ⟨S, hS⟩ : ∃ S, (bL bf).take u2.toNat ++ List.take (v3.toNat - 0) (List.drop 0 ((q.drop k2).drop j3)) = S := ⟨_, rfl⟩
                    have hS2 : (bL bf).take u2.toNat ++ List.take v3.toNat ((q.drop k2).drop j3) = S := hS
                    haveI : AppN ((bL bf).take u2.toNat) (List.take (v3.toNat - 0) (List.drop 0 ((q.drop k2).drop j3))) S := ⟨hS⟩
                    have hSl : S.length ≤ 255 := by rw [← hS2, List.length_append, List.length_take, List.length_take]; omega
                    have hl1 : ((bL bf).take u2.toNat).length ≤ 255 := by rw [List.length_take]; omega
                    have hl2 : (List.take (v3.toNat - 0) (List.drop 0 ((q.drop k2).drop j3))).length ≤ 255 := by rw [List.length_take]; omega
                    by_cases hk0 : k = 0
                    · by_cases hsh : shB (bL bf) S = u2.toNat
                      · haveI : No (¬ (shB (bL bf) S : Int) = (u2.toNat : Int)) := ⟨by omega⟩
                        have ho : oneS (decide (k = 0)) (bL bf) q = .ok (S, ((q.drop k2).drop j3).drop v3.toNat) := by rw [oneS, h2]; simp only; rw [h3]; simp only; rw [if_neg hcn, if_neg hc3, hS2, if_neg (by simp [hk0, hsh])]
                        rw [ho] at a6
                        simp only at a6
                        repeat' (first
  | refine G_nilC ?_
  | refine G_nilN ?_
  | refine G_nilH ?_
  | (refine G_nil ?_; try clear ri_; try clear ops_)
  | (refine V_op ?_; first | exact True.intro | (intro v_ h_ w_ r_ t_; try (obtain ⟨ta_, tb_⟩ := (t_ : _ ∧ _)); try (obtain ⟨tb_, tc_⟩ := (tb_ : _ ∧ _)); try (obtain ⟨tc_, td_⟩ := (tc_ : _ ∧ _)); try (obtain ⟨td_, te_⟩ := (td_ : _ ∧ _))) | intro (ops_ : Array Oper) ri_ | intro (b_ : Bool) hb_ | (intro v_ h_; try (have o_ := FrzK.one h_)) | intro (v_ : Value) | intro (b_ : Nat) | (refine ⟨fun hc => ?_, fun hc => ?_⟩ <;> try (exfalso; omega)) | refine ⟨?_, ?_⟩ | intro _ | skip)
  | (refine Is_DQ ?_; first | (apply DQ_m rfl rfl rfl rfl; focus (intro wq_ Oq_ rq_ mm; (repeat (first | (refine G_nil ?_; exact X_done rfl (List.Sublist.refl _)) | refine V_op ?_)); done)) | (apply DQ_k rfl rfl rfl rfl; intro wq_ Oq_ rq_ mm) | (apply DQ_y rfl rfl rfl rfl; intro wq_ Oq_ rq_ mm)))
                        exact At_roundS (k + 1, v_, cut (BitVec 8) (cut (BitVec 8) (cut (BitVec 8) qv k2 q.length) j3 (q.drop k2).length) v3.toNat ((q.drop k2).drop j3).length, ofL S, ((q.drop k2).drop j3).drop v3.toNat, acc ++ [ofL S]) ⟨by simp only; omega, by simp only [List.length_append, List.length_cons, List.length_nil]; omega, by simp only [bL_ofL]; exact hSl, by simp only [List.length_drop]; omega, hrr.rest (by omega), by simp only [show u.toNat - (k + 1) = n by omega, show decide (k + 1 = 0) = false by simp, bL_ofL]; rw [a6, List.append_assoc]; rfl⟩ (by simp only; omega) (by repeat (first | exact trivial | refine And.intro rfl ?_)) (by repeat (first | exact trivial | refine And.intro rfl ?_))
                      · haveI : Yes (¬ (shB (bL bf) S : Int) = (u2.toNat : Int)) := ⟨by omega⟩
                        have ho : oneS (decide (k = 0)) (bL bf) q = .error 5 := by rw [oneS, h2]; simp only; rw [h3]; simp only; rw [if_neg hcn, if_neg hc3, hS2, if_pos (.inr hsh)]
                        rw [ho] at a6
                        simp only [List.append_nil] at a6
                        rw [a6]
                        repeat' (first
  | refine G_nilC ?_
  | refine G_nilN ?_
  | refine G_nilH ?_
  | (refine G_nil ?_; try clear ri_; try clear ops_)
  | (refine V_op ?_; first | exact True.intro | (intro v_ h_ w_ r_ t_; try (obtain ⟨ta_, tb_⟩ := (t_ : _ ∧ _)); try (obtain ⟨tb_, tc_⟩ := (tb_ : _ ∧ _)); try (obtain ⟨tc_, td_⟩ := (tc_ : _ ∧ _)); try (obtain ⟨td_, te_⟩ := (td_ : _ ∧ _))) | intro (ops_ : Array Oper) ri_ | intro (b_ : Bool) hb_ | (intro v_ h_; try (have o_ := FrzK.one h_)) | intro (v_ : Value) | intro (b_ : Nat) | (refine ⟨fun hc => ?_, fun hc => ?_⟩ <;> try (exfalso; omega)) | refine ⟨?_, ?_⟩ | intro _ | skip)
  | (refine Is_DQ ?_; first | (apply DQ_m rfl rfl rfl rfl; focus (intro wq_ Oq_ rq_ mm; (repeat (first | (refine G_nil ?_; exact X_done rfl (List.Sublist.refl _)) | refine V_op ?_)); done)) | (apply DQ_k rfl rfl rfl rfl; intro wq_ Oq_ rq_ mm) | (apply DQ_y rfl rfl rfl rfl; intro wq_ Oq_ rq_ mm)))
                        refine ret_ rfl (by repeat (first | exact ResAll.nil | (apply ResAll.cons; first | exact .tmp rfl | exact .cell rfl rfl | exact .one rfl))) fun w' h' => ?_
                        exact ⟨rfl, SubM.ent.st h'⟩
                    · by_cases hlt : ltS (bL bf) S
                      · haveI : No (¬ ltS (bL bf) S) := ⟨fun h => h hlt⟩
                        by_cases hsh : shB (bL bf) S = u2.toNat
                        · haveI : No (¬ (shB (bL bf) S : Int) = (u2.toNat : Int)) := ⟨by omega⟩
                          have ho : oneS (decide (k = 0)) (bL bf) q = .ok (S, ((q.drop k2).drop j3).drop v3.toNat) := by rw [oneS, h2]; simp only; rw [h3]; simp only; rw [if_neg hcn, if_neg hc3, hS2, if_neg (by simp [hk0, hlt, hsh])]
                          rw [ho] at a6
                          simp only at a6
                          repeat' (first
  | refine G_nilC ?_
  | refine G_nilN ?_
  | refine G_nilH ?_
  | (refine G_nil ?_; try clear ri_; try clear ops_)
  | (refine V_op ?_; first | exact True.intro | (intro v_ h_ w_ r_ t_; try (obtain ⟨ta_, tb_⟩ := (t_ : _ ∧ _)); try (obtain ⟨tb_, tc_⟩ := (tb_ : _ ∧ _)); try (obtain ⟨tc_, td_⟩ := (tc_ : _ ∧ _)); try (obtain ⟨td_, te_⟩ := (td_ : _ ∧ _))) | intro (ops_ : Array Oper) ri_ | intro (b_ : Bool) hb_ | (intro v_ h_; try (have o_ := FrzK.one h_)) | intro (v_ : Value) | intro (b_ : Nat) | (refine ⟨fun hc => ?_, fun hc => ?_⟩ <;> try (exfalso; omega)) | refine ⟨?_, ?_⟩ | intro _ | skip)
  | (refine Is_DQ ?_; first | (apply DQ_m rfl rfl rfl rfl; focus (intro wq_ Oq_ rq_ mm; (repeat (first | (refine G_nil ?_; exact X_done rfl (List.Sublist.refl _)) | refine V_op ?_)); done)) | (apply DQ_k rfl rfl rfl rfl; intro wq_ Oq_ rq_ mm) | (apply DQ_y rfl rfl rfl rfl; intro wq_ Oq_ rq_ mm)))
                          exact At_roundS (k + 1, v_, cut (BitVec 8) (cut (BitVec 8) (cut (BitVec 8) qv k2 q.length) j3 (q.drop k2).length) v3.toNat ((q.drop k2).drop j3).length, ofL S, ((q.drop k2).drop j3).drop v3.toNat, acc ++ [ofL S]) ⟨by simp only; omega, by simp only [List.length_append, List.length_cons, List.length_nil]; omega, by simp only [bL_ofL]; exact hSl, by simp only [List.length_drop]; omega, hrr.rest (by omega), by simp only [show u.toNat - (k + 1) = n by omega, show decide (k + 1 = 0) = false by simp, bL_ofL]; rw [a6, List.append_assoc]; rfl⟩ (by simp only; omega) (by repeat (first | exact trivial | refine And.intro rfl ?_)) (by repeat (first | exact trivial | refine And.intro rfl ?_))
                        · haveI : Yes (¬ (shB (bL bf) S : Int) = (u2.toNat : Int)) := ⟨by omega⟩
                          have ho : oneS (decide (k = 0)) (bL bf) q = .error 5 := by rw [oneS, h2]; simp only; rw [h3]; simp only; rw [if_neg hcn, if_neg hc3, hS2, if_pos (.inr hsh)]
                          rw [ho] at a6
                          simp only [List.append_nil] at a6
                          rw [a6]
                          repeat' (first
  | refine G_nilC ?_
  | refine G_nilN ?_
  | refine G_nilH ?_
  | (refine G_nil ?_; try clear ri_; try clear ops_)
  | (refine V_op ?_; first | exact True.intro | (intro v_ h_ w_ r_ t_; try (obtain ⟨ta_, tb_⟩ := (t_ : _ ∧ _)); try (obtain ⟨tb_, tc_⟩ := (tb_ : _ ∧ _)); try (obtain ⟨tc_, td_⟩ := (tc_ : _ ∧ _)); try (obtain ⟨td_, te_⟩ := (td_ : _ ∧ _))) | intro (ops_ : Array Oper) ri_ | intro (b_ : Bool) hb_ | (intro v_ h_; try (have o_ := FrzK.one h_)) | intro (v_ : Value) | intro (b_ : Nat) | (refine ⟨fun hc => ?_, fun hc => ?_⟩ <;> try (exfalso; omega)) | refine ⟨?_, ?_⟩ | intro _ | skip)
  | (refine Is_DQ ?_; first | (apply DQ_m rfl rfl rfl rfl; focus (intro wq_ Oq_ rq_ mm; (repeat (first | (refine G_nil ?_; exact X_done rfl (List.Sublist.refl _)) | refine V_op ?_)); done)) | (apply DQ_k rfl rfl rfl rfl; intro wq_ Oq_ rq_ mm) | (apply DQ_y rfl rfl rfl rfl; intro wq_ Oq_ rq_ mm)))
                          refine ret_ rfl (by repeat (first | exact ResAll.nil | (apply ResAll.cons; first | exact .tmp rfl | exact .cell rfl rfl | exact .one rfl))) fun w' h' => ?_
                          exact ⟨rfl, SubM.ent.st h'⟩
                      · haveI : Yes (¬ ltS (bL bf) S) := ⟨hlt⟩
                        have ho : oneS (decide (k = 0)) (bL bf) q = .error 5 := by rw [oneS, h2]; simp only; rw [h3]; simp only; rw [if_neg hcn, if_neg hc3, hS2, if_pos (.inl ⟨by simp [hk0], hlt⟩)]
                        rw [ho] at a6
                        simp only [List.append_nil] at a6
                        rw [a6]
                        repeat' (first
  | refine G_nilC ?_
  | refine G_nilN ?_
  | refine G_nilH ?_
  | (refine G_nil ?_; try clear ri_; try clear ops_)
  | (refine V_op ?_; first | exact True.intro | (intro v_ h_ w_ r_ t_; try (obtain ⟨ta_, tb_⟩ := (t_ : _ ∧ _)); try (obtain ⟨tb_, tc_⟩ := (tb_ : _ ∧ _)); try (obtain ⟨tc_, td_⟩ := (tc_ : _ ∧ _)); try (obtain ⟨td_, te_⟩ := (td_ : _ ∧ _))) | intro (ops_ : Array Oper) ri_ | intro (b_ : Bool) hb_ | (intro v_ h_; try (have o_ := FrzK.one h_)) | intro (v_ : Value) | intro (b_ : Nat) | (refine ⟨fun hc => ?_, fun hc => ?_⟩ <;> try (exfalso; omega)) | refine ⟨?_, ?_⟩ | intro _ | skip)
  | (refine Is_DQ ?_; first | (apply DQ_m rfl rfl rfl rfl; focus (intro wq_ Oq_ rq_ mm; (repeat (first | (refine G_nil ?_; exact X_done rfl (List.Sublist.refl _)) | refine V_op ?_)); done)) | (apply DQ_k rfl rfl rfl rfl; intro wq_ Oq_ rq_ mm) | (apply DQ_y rfl rfl rfl rfl; intro wq_ Oq_ rq_ mm)))
                        refine ret_ rfl (by repeat (first | exact ResAll.nil | (apply ResAll.cons; first | exact .tmp rfl | exact .cell rfl rfl | exact .one rfl))) fun w' h' => ?_
                        exact ⟨rfl, SubM.ent.st h'⟩
      · have hz : u.toNat - k = 0 := by omega
        rw [hz, unS] at a6
        simp only [List.append_nil] at a6
        rw [a6]
        repeat' (first
  | refine G_nilC ?_
  | refine G_nilN ?_
  | refine G_nilH ?_
  | (refine G_nil ?_; try clear ri_; try clear ops_)
  | (refine V_op ?_; first | exact True.intro | (intro v_ h_ w_ r_ t_; try (obtain ⟨ta_, tb_⟩ := (t_ : _ ∧ _)); try (obtain ⟨tb_, tc_⟩ := (tb_ : _ ∧ _)); try (obtain ⟨tc_, td_⟩ := (tc_ : _ ∧ _)); try (obtain ⟨td_, te_⟩ := (td_ : _ ∧ _))) | intro (ops_ : Array Oper) ri_ | intro (b_ : Bool) hb_ | (intro v_ h_; try (have o_ := FrzK.one h_)) | intro (v_ : Value) | intro (b_ : Nat) | (refine ⟨fun hc => ?_, fun hc => ?_⟩ <;> try (exfalso; omega)) | refine ⟨?_, ?_⟩ | intro _ | skip)
  | (refine Is_DQ ?_; first | (apply DQ_m rfl rfl rfl rfl; focus (intro wq_ Oq_ rq_ mm; (repeat (first | (refine G_nil ?_; exact X_done rfl (List.Sublist.refl _)) | refine V_op ?_)); done)) | (apply DQ_k rfl rfl rfl rfl; intro wq_ Oq_ rq_ mm) | (apply DQ_y rfl rfl rfl rfl; intro wq_ Oq_ rq_ mm)))
        refine ret_ rfl (by repeat (first | exact ResAll.nil | (apply ResAll.cons; first | exact .tmp rfl | exact .cell rfl rfl | exact .one rfl))) fun w' h' => ?_
        exact ⟨(dv, ⟨qv, a5⟩), rfl, SubM.ent.st h'⟩
end Go.Proofs.Ytnncjfphdcfimaa
