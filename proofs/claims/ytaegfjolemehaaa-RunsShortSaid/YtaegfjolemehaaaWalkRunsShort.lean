/- The walk of RunsShort. -/
import Derived.Test.YtaegfjolemehaaaRnn
import Derived.Test.YtaegfjolemehaaaTyps
set_option linter.unusedVariables false
set_option linter.unusedSimpArgs false
set_option maxRecDepth 100000
set_option maxHeartbeats 4000000
namespace Go.Proofs.Ytaegfjolemehaaa
open Go.RowKit
attribute [local irreducible] G GC At wpL DR XPost CPost Cut GA GAR GAX GAt NxA

theorem walk_RunsShort (w : World) (a0 : Sl Int) (g0 : Rng.rng a0) [t0 : Tru w [] a0] (c : BitVec 16) (g1 : Rng.rng c) [t1 : Tru w [] c] :
    Calls Try.prog 8 #[a0.v, .int .u16 (c.toNat : Int)] w (Is w (.bool true)) := by
  obtain ⟨v0, l, o0⟩ := a0
  haveI h : RdOld w [] v0 l := rdOld_tru (x := ⟨v0, l, o0⟩)
  haveI : One v0 := ⟨o0⟩
  have hok : okI l := g0
  have hlen := h.rd.len_le
  have hc16 : c.toNat < 65536 := c.isLt
  by_cases hl : l.length ≤ 300
  · haveI : Eqn (enB l) (encB l) := ⟨en_small (by omega)⟩
    haveI : Eqn (enE l) 0 := ⟨ee_small (by omega)⟩
    have hp : 0 < (encB l).length := by simp [encB]
    have hle : (encB l).length ≤ 65579 := by have := fB_le (k := kd l) hok (by omega); simp only [encB, List.length_cons]; unfold fS at this; omega
    have hm : c.toNat % (encB l).length < (encB l).length := Nat.mod_lt _ hp
    haveI : Eqn (dcB (((encB l).drop 0).take (c.toNat % (encB l).length - 0))) (.error 7) := ⟨by rw [List.drop_zero, Nat.sub_zero]; exact dec_short hok (by omega) hm⟩
    haveI : Eqn (enB (List.replicate (4097 + c.toNat % 5) 0)) [] := ⟨by rw [enB, if_neg (by simp; omega)]⟩
    haveI : Eqn (enE (List.replicate (4097 + c.toNat % 5) 0)) 2 := ⟨by rw [enE, if_neg (by simp; omega)]⟩
    have hok2 : okI (List.replicate (4097 + c.toNat % 5) 0) := fun x hx => by rw [(List.mem_replicate.1 hx).2]; decide
    refine enter (N := 72) (args := [v0, .int .u16 (c.toNat : Int)]) Try.func8 rfl rfl rfl (St.refl w) ?_
    repeat' (first
  | refine G_nilC ?_
  | refine G_nilN ?_
  | (refine G_nil ?_; try clear ri_; try clear ops_)
  | (refine V_op ?_; first | exact True.intro | intro v_ h_ w_ r_ t_ | intro (ops_ : Array Oper) ri_ | intro (b_ : Bool) hb_ | intro v_ h_ | intro (v_ : Value) | intro (b_ : Nat) | (refine ⟨fun hc => ?_, fun hc => ?_⟩ <;> try (exfalso; omega)) | refine ⟨?_, ?_⟩ | intro _ | skip)
  | (refine Is_DQ ?_; first | (apply DQ_k rfl rfl rfl; intro mm) | (apply DQ_x rfl rfl rfl; intro mm)))
    refine GC_cutX (ι := Nat) (fun _ => True) (fun b => (7, .pointer (some ⟨b, 0, none⟩)) :: (5, .bool true) :: [(1, .int .u16 (c.toNat : Int))])
      (fun b => [.box b (.cells #[.slice none 0 0, .slice none 0 0, I 7] 46)]) ?_ ?_
    · haveI := DrA_8_9
      repeat' (first
  | refine G_nilC ?_
  | refine G_nilN ?_
  | (refine G_nil ?_; try clear ri_; try clear ops_)
  | (refine V_op ?_; first | exact True.intro | intro v_ h_ w_ r_ t_ | intro (ops_ : Array Oper) ri_ | intro (b_ : Bool) hb_ | intro v_ h_ | intro (v_ : Value) | intro (b_ : Nat) | (refine ⟨fun hc => ?_, fun hc => ?_⟩ <;> try (exfalso; omega)) | refine ⟨?_, ?_⟩ | intro _ | skip)
  | (refine Is_DQ ?_; first | (apply DQ_k rfl rfl rfl; intro mm) | (apply DQ_x rfl rfl rfl; intro mm)))
      all_goals exact At_cutX b_ trivial (by repeat (first | exact trivial | refine And.intro rfl ?_))
    · rintro b _
      repeat' (first
  | refine G_nilC ?_
  | refine G_nilN ?_
  | (refine G_nil ?_; try clear ri_; try clear ops_)
  | (refine V_op ?_; first | exact True.intro | intro v_ h_ w_ r_ t_ | intro (ops_ : Array Oper) ri_ | intro (b_ : Bool) hb_ | intro v_ h_ | intro (v_ : Value) | intro (b_ : Nat) | (refine ⟨fun hc => ?_, fun hc => ?_⟩ <;> try (exfalso; omega)) | refine ⟨?_, ?_⟩ | intro _ | skip)
  | (refine Is_DQ ?_; first | (apply DQ_k rfl rfl rfl; intro mm) | (apply DQ_x rfl rfl rfl; intro mm)))
      all_goals
        refine ret_ rfl (by repeat (first | exact ResAll.nil | (apply ResAll.cons; first | exact .tmp rfl | exact .cell rfl rfl | exact .one rfl))) fun w' h' => ?_
        exact .mk rfl h'
  · refine enter (N := 72) (args := [v0, .int .u16 (c.toNat : Int)]) Try.func8 rfl rfl rfl (St.refl w) ?_
    repeat' (first
  | refine G_nilC ?_
  | refine G_nilN ?_
  | (refine G_nil ?_; try clear ri_; try clear ops_)
  | (refine V_op ?_; first | exact True.intro | intro v_ h_ w_ r_ t_ | intro (ops_ : Array Oper) ri_ | intro (b_ : Bool) hb_ | intro v_ h_ | intro (v_ : Value) | intro (b_ : Nat) | (refine ⟨fun hc => ?_, fun hc => ?_⟩ <;> try (exfalso; omega)) | refine ⟨?_, ?_⟩ | intro _ | skip)
  | (refine Is_DQ ?_; first | (apply DQ_k rfl rfl rfl; intro mm) | (apply DQ_x rfl rfl rfl; intro mm)))
    refine ret_ rfl (by repeat (first | exact ResAll.nil | (apply ResAll.cons; first | exact .tmp rfl | exact .cell rfl rfl | exact .one rfl))) fun w' h' => ?_
    exact .mk rfl h'
end Go.Proofs.Ytaegfjolemehaaa
