/- The walk of ContainerInverse. -/
import Derived.Test.YtdngfkmigpnbnaaCnl
set_option linter.unusedVariables false
set_option linter.unusedSimpArgs false
set_option maxRecDepth 100000
set_option maxHeartbeats 4000000
namespace Go.Proofs.Ytdngfkmigpnbnaa
open Go.RowKit
attribute [local irreducible] G GC At wpL DR XPost CPost Cut GA GAR GAX GAt NxA GH GHR NxH
attribute [local irreducible] fiB opB seB spB sumB packB

theorem walk_ContainerInverse (w : World) (a0 : chapmanref09_Raw) (g0 : Rng.rng a0) [t0 : Tru w [] a0] (a1 : Sl (BitVec 8)) (g1 : Rng.rng a1) [t1 : Tru w [] a1] :
    Calls Try.prog 4 #[Elt.val a0, a1.v] w (Is w (.bool true)) := by
  obtain ⟨kb, ⟨iv, il, io⟩, ⟨dv, dl, ido⟩⟩ := a0
  haveI h1 : RdOld w [] iv il := rdOld_tru (x := ⟨iv, il, io⟩) (h := ⟨t0.h.2.1⟩)
  haveI h2 : RdOld w [] dv dl := rdOld_tru (x := ⟨dv, dl, ido⟩) (h := ⟨t0.h.2.2⟩)
  haveI : One iv := ⟨io⟩
  haveI : One dv := ⟨ido⟩
  obtain ⟨bv, bs, ob⟩ := a1
  haveI h3 : RdOld w [] bv bs := rdOld_tru (x := ⟨bv, bs, ob⟩)
  haveI : One bv := ⟨ob⟩
  have hok : okI il := g0.2.1
  have hf := mdF_ok (k := kb) (b := dl) hok
  have hle := seB_le2 (k := kb) (b := dl) hok
  have hse := se_ok hf
  have hop := op_se hf
  have hot := ok_take hok
  have hlt : (il.take 40).length ≤ 40 := by rw [List.length_take]; omega
  have hlt2 : (⟨1 + (kb.toNat : Int) % 9, il.take 40, dl.take 200⟩ : Fl).id.length ≤ 40 := hlt
  have hbl := h3.rd.len_le
  simp only [mdF] at hle hse hop
  generalize hB : seB ⟨1 + (kb.toNat : Int) % 9, il.take 40, dl.take 200⟩ = B at *
  haveI : Eqn (seE ⟨1 + (kb.toNat : Int) % 9, il.take 40, dl.take 200⟩) 0 := ⟨hse.1⟩
  haveI : Eqn (seR ⟨1 + (kb.toNat : Int) % 9, il.take 40, dl.take 200⟩) B := ⟨hse.2⟩
  haveI : Eqn (opB B) (.ok ⟨1 + (kb.toNat : Int) % 9, il.take 40, dl.take 200⟩) := ⟨hop⟩
  clear hf hse hop g0 g1 t0 t1 hok hB
  show Calls Try.prog 4 #[.agg #[B8 kb, iv, dv], bv] w (Is w (.bool true))
  by_cases hl : 400 < bs.length
  · refine enter (N := 70) (args := [.agg #[B8 kb, iv, dv], bv]) Try.func4 rfl rfl rfl (St.refl w) ?_
    repeat' (first
  | refine G_nilC ?_
  | refine G_nilN ?_
  | refine G_nilH ?_
  | (refine G_nil ?_; try clear ri_; try clear ops_)
  | (refine V_op ?_; first | exact True.intro | (intro v_ h_ w_ r_ t_; try (obtain ⟨ta_, tb_⟩ := (t_ : _ ∧ _)); try (obtain ⟨tb_, tc_⟩ := (tb_ : _ ∧ _)); try (obtain ⟨tc_, td_⟩ := (tc_ : _ ∧ _)); try (obtain ⟨td_, te_⟩ := (td_ : _ ∧ _))) | intro (ops_ : Array Oper) ri_ | intro (b_ : Bool) hb_ | (intro v_ h_; try (have o_ := FrzK.one h_)) | intro (v_ : Value) | intro (b_ : Nat) | (refine ⟨fun hc => ?_, fun hc => ?_⟩ <;> try (exfalso; omega)) | refine ⟨?_, ?_⟩ | intro _ | skip)
  | (refine Is_DQ ?_; first | (apply DQ_m rfl rfl rfl rfl; focus (intro wq_ Oq_ rq_ mm; (repeat (first | (refine G_nil ?_; exact X_done rfl (List.Sublist.refl _)) | refine V_op ?_)); done)) | (apply DQ_k rfl rfl rfl rfl; intro wq_ Oq_ rq_ mm) | (apply DQ_y rfl rfl rfl rfl; intro wq_ Oq_ rq_ mm)))
    refine ret_ rfl (by repeat (first | exact ResAll.nil | (apply ResAll.cons; first | exact .tmp rfl | exact .cell rfl rfl | exact .one rfl))) fun w' h' => ?_
    exact .mkB rfl h'
  · cases hx : opB bs with
    | error e =>
      have he := op_err hx
      haveI : Eqn (opB bs) (.error e) := ⟨hx⟩
      refine enter (N := 70) (args := [.agg #[B8 kb, iv, dv], bv]) Try.func4 rfl rfl rfl (St.refl w) ?_
      repeat' (first
  | refine G_nilC ?_
  | refine G_nilN ?_
  | refine G_nilH ?_
  | (refine G_nil ?_; try clear ri_; try clear ops_)
  | (refine V_op ?_; first | exact True.intro | (intro v_ h_ w_ r_ t_; try (obtain ⟨ta_, tb_⟩ := (t_ : _ ∧ _)); try (obtain ⟨tb_, tc_⟩ := (tb_ : _ ∧ _)); try (obtain ⟨tc_, td_⟩ := (tc_ : _ ∧ _)); try (obtain ⟨td_, te_⟩ := (td_ : _ ∧ _))) | intro (ops_ : Array Oper) ri_ | intro (b_ : Bool) hb_ | (intro v_ h_; try (have o_ := FrzK.one h_)) | intro (v_ : Value) | intro (b_ : Nat) | (refine ⟨fun hc => ?_, fun hc => ?_⟩ <;> try (exfalso; omega)) | refine ⟨?_, ?_⟩ | intro _ | skip)
  | (refine Is_DQ ?_; first | (apply DQ_m rfl rfl rfl rfl; focus (intro wq_ Oq_ rq_ mm; (repeat (first | (refine G_nil ?_; exact X_done rfl (List.Sublist.refl _)) | refine V_op ?_)); done)) | (apply DQ_k rfl rfl rfl rfl; intro wq_ Oq_ rq_ mm) | (apply DQ_y rfl rfl rfl rfl; intro wq_ Oq_ rq_ mm)))
      all_goals
        refine ret_ rfl (by repeat (first | exact ResAll.nil | (apply ResAll.cons; first | exact .tmp rfl | exact .cell rfl rfl | exact .one rfl))) fun w' h' => ?_
        exact .mkB rfl h'
    | ok g =>
      obtain ⟨hg, hgb⟩ := op_ok hx
      have hgs := se_ok hg
      rw [hgb] at hgs
      have hgo := hg.ok
      have hgl := hg.id
      haveI : Eqn (opB bs) (.ok g) := ⟨hx⟩
      haveI : Eqn (seE ⟨g.k, g.id, g.da⟩) 0 := ⟨hgs.1⟩
      haveI : Eqn (seR ⟨g.k, g.id, g.da⟩) bs := ⟨hgs.2⟩
      clear hg hgb hgs
      refine enter (N := 70) (args := [.agg #[B8 kb, iv, dv], bv]) Try.func4 rfl rfl rfl (St.refl w) ?_
      repeat' (first
  | refine G_nilC ?_
  | refine G_nilN ?_
  | refine G_nilH ?_
  | (refine G_nil ?_; try clear ri_; try clear ops_)
  | (refine V_op ?_; first | exact True.intro | (intro v_ h_ w_ r_ t_; try (obtain ⟨ta_, tb_⟩ := (t_ : _ ∧ _)); try (obtain ⟨tb_, tc_⟩ := (tb_ : _ ∧ _)); try (obtain ⟨tc_, td_⟩ := (tc_ : _ ∧ _)); try (obtain ⟨td_, te_⟩ := (td_ : _ ∧ _))) | intro (ops_ : Array Oper) ri_ | intro (b_ : Bool) hb_ | (intro v_ h_; try (have o_ := FrzK.one h_)) | intro (v_ : Value) | intro (b_ : Nat) | (refine ⟨fun hc => ?_, fun hc => ?_⟩ <;> try (exfalso; omega)) | refine ⟨?_, ?_⟩ | intro _ | skip)
  | (refine Is_DQ ?_; first | (apply DQ_m rfl rfl rfl rfl; focus (intro wq_ Oq_ rq_ mm; (repeat (first | (refine G_nil ?_; exact X_done rfl (List.Sublist.refl _)) | refine V_op ?_)); done)) | (apply DQ_k rfl rfl rfl rfl; intro wq_ Oq_ rq_ mm) | (apply DQ_y rfl rfl rfl rfl; intro wq_ Oq_ rq_ mm)))
      all_goals
        refine ret_ rfl (by repeat (first | exact ResAll.nil | (apply ResAll.cons; first | exact .tmp rfl | exact .cell rfl rfl | exact .one rfl))) fun w' h' => ?_
        exact .mkB rfl h'
end Go.Proofs.Ytdngfkmigpnbnaa
