/- The walk of RunsInverts. -/
import Derived.Test.YtaegfjolemehaaaRnn
import Derived.Test.YtaegfjolemehaaaTyps
set_option linter.unusedVariables false
set_option linter.unusedSimpArgs false
set_option maxRecDepth 100000
set_option maxHeartbeats 4000000
namespace Go.Proofs.Ytaegfjolemehaaa
open Go.RowKit
attribute [local irreducible] G GC At wpL DR XPost CPost Cut GA GAR GAX GAt NxA

theorem walk_RunsInverts (w : World) (a0 : Sl Int) (g0 : Rng.rng a0) [t0 : Tru w [] a0] (a1 : Sl (BitVec 8)) (g1 : Rng.rng a1) [t1 : Tru w [] a1] :
    Calls Try.prog 6 #[a0.v, a1.v] w (Is w (.bool true)) := by
  obtain ⟨v0, l, o0⟩ := a0
  obtain ⟨v1, bs, o1⟩ := a1
  haveI h : RdOld w [] v0 l := rdOld_tru (x := ⟨v0, l, o0⟩)
  haveI h1 : RdOld w [] v1 bs := rdOld_tru (x := ⟨v1, bs, o1⟩)
  haveI : One v0 := ⟨o0⟩
  haveI : One v1 := ⟨o1⟩
  have hok : okI l := g0
  have hlen := h.rd.len_le
  have hlen1 := h1.rd.len_le
  by_cases hl : l.length ≤ 4096 ∧ bs.length ≤ 300
  · obtain ⟨hl, hb⟩ := hl
    haveI : Eqn (enB l) (encB l) := ⟨en_small (by omega)⟩
    haveI : Eqn (enE l) 0 := ⟨ee_small (by omega)⟩
    have hle : (encB l).length ≤ 65579 := by have := fB_le (k := kd l) hok (by omega); simp only [encB, List.length_cons]; unfold fS at this; omega
    haveI : Eqn (dcB (encB l ++ bs)) (.ok (l, (encB l).length)) := ⟨dec_enc hok hl bs⟩
    haveI : Fct ((encB l ++ bs).drop (encB l).length = bs) := ⟨List.drop_left' rfl⟩
    cases hd : dcB bs with
    | error e =>
      haveI : Eqn (dcB bs) (.error e) := ⟨hd⟩
      have he := dec_err hd
      refine enter (N := 89) (args := [v0, v1]) Try.func6 rfl rfl rfl (St.refl w) ?_
      repeat' (first
  | refine G_nilC ?_
  | refine G_nilN ?_
  | (refine G_nil ?_; try clear ri_; try clear ops_)
  | (refine V_op ?_; first | exact True.intro | intro v_ h_ w_ r_ t_ | intro (ops_ : Array Oper) ri_ | intro (b_ : Bool) hb_ | intro v_ h_ | intro (v_ : Value) | intro (b_ : Nat) | (refine ⟨fun hc => ?_, fun hc => ?_⟩ <;> try (exfalso; omega)) | refine ⟨?_, ?_⟩ | intro _ | skip)
  | (refine Is_DQ ?_; first | (apply DQ_k rfl rfl rfl; intro mm) | (apply DQ_x rfl rfl rfl; intro mm)))
      (first | refine G_frz v_ ?_ | refine GC_frz v_ ?_ | refine At_frz v_ ?_); intro w_ _ _ _
      repeat' (first
  | refine G_nilC ?_
  | refine G_nilN ?_
  | (refine G_nil ?_; try clear ri_; try clear ops_)
  | (refine V_op ?_; first | exact True.intro | intro v_ h_ w_ r_ t_ | intro (ops_ : Array Oper) ri_ | intro (b_ : Bool) hb_ | intro v_ h_ | intro (v_ : Value) | intro (b_ : Nat) | (refine ⟨fun hc => ?_, fun hc => ?_⟩ <;> try (exfalso; omega)) | refine ⟨?_, ?_⟩ | intro _ | skip)
  | (refine Is_DQ ?_; first | (apply DQ_k rfl rfl rfl; intro mm) | (apply DQ_x rfl rfl rfl; intro mm)))
      all_goals
        refine ret_ rfl (by repeat (first | exact ResAll.nil | (apply ResAll.cons; first | exact .tmp rfl | exact .cell rfl rfl | exact .one rfl))) fun w' h' => ?_
        exact .mkB rfl h'
    | ok p =>
      obtain ⟨l', off⟩ := p
      obtain ⟨⟨k1, k2⟩, k3, k4⟩ := dec_canon hd
      haveI : Eqn (dcB bs) (.ok (l', off)) := ⟨hd⟩
      haveI : Eqn (enB l') (encB l') := ⟨en_small (by omega)⟩
      haveI : Eqn (enE l') 0 := ⟨ee_small (by omega)⟩
      haveI : Fct (encB l' ++ bs.drop off = bs) := ⟨k3⟩
      have hle' : (encB l').length ≤ 65579 := by have := fB_le (k := kd l') k1 (by omega); simp only [encB, List.length_cons]; unfold fS at this; omega
      refine enter (N := 89) (args := [v0, v1]) Try.func6 rfl rfl rfl (St.refl w) ?_
      repeat' (first
  | refine G_nilC ?_
  | refine G_nilN ?_
  | (refine G_nil ?_; try clear ri_; try clear ops_)
  | (refine V_op ?_; first | exact True.intro | intro v_ h_ w_ r_ t_ | intro (ops_ : Array Oper) ri_ | intro (b_ : Bool) hb_ | intro v_ h_ | intro (v_ : Value) | intro (b_ : Nat) | (refine ⟨fun hc => ?_, fun hc => ?_⟩ <;> try (exfalso; omega)) | refine ⟨?_, ?_⟩ | intro _ | skip)
  | (refine Is_DQ ?_; first | (apply DQ_k rfl rfl rfl; intro mm) | (apply DQ_x rfl rfl rfl; intro mm)))
      (first | refine G_frz v_ ?_ | refine GC_frz v_ ?_ | refine At_frz v_ ?_); intro w_ _ _ _
      repeat' (first
  | refine G_nilC ?_
  | refine G_nilN ?_
  | (refine G_nil ?_; try clear ri_; try clear ops_)
  | (refine V_op ?_; first | exact True.intro | intro v_ h_ w_ r_ t_ | intro (ops_ : Array Oper) ri_ | intro (b_ : Bool) hb_ | intro v_ h_ | intro (v_ : Value) | intro (b_ : Nat) | (refine ⟨fun hc => ?_, fun hc => ?_⟩ <;> try (exfalso; omega)) | refine ⟨?_, ?_⟩ | intro _ | skip)
  | (refine Is_DQ ?_; first | (apply DQ_k rfl rfl rfl; intro mm) | (apply DQ_x rfl rfl rfl; intro mm)))
      all_goals
        refine ret_ rfl (by repeat (first | exact ResAll.nil | (apply ResAll.cons; first | exact .tmp rfl | exact .cell rfl rfl | exact .one rfl))) fun w' h' => ?_
        exact .mkB rfl h'
  · refine enter (N := 89) (args := [v0, v1]) Try.func6 rfl rfl rfl (St.refl w) ?_
    repeat' (first
  | refine G_nilC ?_
  | refine G_nilN ?_
  | (refine G_nil ?_; try clear ri_; try clear ops_)
  | (refine V_op ?_; first | exact True.intro | intro v_ h_ w_ r_ t_ | intro (ops_ : Array Oper) ri_ | intro (b_ : Bool) hb_ | intro v_ h_ | intro (v_ : Value) | intro (b_ : Nat) | (refine ⟨fun hc => ?_, fun hc => ?_⟩ <;> try (exfalso; omega)) | refine ⟨?_, ?_⟩ | intro _ | skip)
  | (refine Is_DQ ?_; first | (apply DQ_k rfl rfl rfl; intro mm) | (apply DQ_x rfl rfl rfl; intro mm)))
    all_goals
      refine ret_ rfl (by repeat (first | exact ResAll.nil | (apply ResAll.cons; first | exact .tmp rfl | exact .cell rfl rfl | exact .one rfl))) fun w' h' => ?_
      exact .mk rfl h'
end Go.Proofs.Ytaegfjolemehaaa
