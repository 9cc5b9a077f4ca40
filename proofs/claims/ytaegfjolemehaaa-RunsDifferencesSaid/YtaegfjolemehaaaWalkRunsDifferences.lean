/- The walk of RunsDifferences. -/
import Derived.Test.YtaegfjolemehaaaRnm
import Derived.Test.YtaegfjolemehaaaTyps
set_option linter.unusedVariables false
set_option linter.unusedSimpArgs false
set_option maxRecDepth 100000
set_option maxHeartbeats 4000000
namespace Go.Proofs.Ytaegfjolemehaaa
open Go.RowKit
attribute [local irreducible] G GC At wpL DR XPost CPost Cut GA GAR GAX GAt NxA

theorem walk_RunsDifferences (w : World) (a0 : Sl Int) (g0 : Rng.rng a0) [t0 : Tru w [] a0] (n : Int) (g1 : Rng.rng n) [t1 : Tru w [] n] :
    Calls Try.prog 5 #[a0.v, I n] w (Is w (.bool true)) := by
  obtain ⟨v0, l, o0⟩ := a0
  haveI h : RdOld w [] v0 l := rdOld_tru (x := ⟨v0, l, o0⟩)
  haveI : One v0 := ⟨o0⟩
  have hb : ∀ z ∈ l, -9223372036854775808 ≤ z ∧ z ≤ 9223372036854775807 := g0
  obtain ⟨n0, n1⟩ : -9223372036854775808 ≤ n ∧ n ≤ 9223372036854775807 := g1
  have hlen := h.rd.len_le
  have hok : okI l := hb
  by_cases hl : l.length ≤ 300
  · refine enter (N := 88) (args := [v0, I n]) Try.func5 rfl rfl rfl (St.refl w) ?_
    repeat' (first
  | refine G_nilC ?_
  | refine G_nilN ?_
  | (refine G_nil ?_; try clear ri_; try clear ops_)
  | (refine V_opW ?_; first | exact True.intro | intro v_ h_ w_ r_ t_ | intro (ops_ : Array Oper) ri_ | intro (b_ : Bool) hb_ | intro v_ h_ | intro (v_ : Value) | intro (b_ : Nat) | (refine ⟨fun hc => ?_, fun hc => ?_⟩ <;> try (exfalso; omega)) | refine ⟨?_, ?_⟩ | intro _ | skip)
  | (refine Is_DQ ?_; first | (apply DQ_k rfl rfl rfl; intro mm) | (apply DQ_x rfl rfl rfl; intro mm)))
    refine GC_loopS (X := Nat × Value) (fun i => i.1 ≤ l.length) (fun i s => (7, I i.1) :: (6, i.2) :: s) (fun i q => row i.2 3 ((l.take i.1).map (wadd · n)) :: q) (fun i => l.length - i.1) (0, _) (Nat.zero_le _) (by repeat (first | exact trivial | refine And.intro rfl ?_)) ?_
    rintro ⟨i, q⟩ hi
    simp only at hi ⊢
    have hml : ((l.take i).map (wadd · n)).length = i := by simp; omega
    by_cases hil : i < l.length
    · haveI : AppN ((l.take i).map (wadd · n)) [wadd l[i] n] ((l.take (i + 1)).map (wadd · n)) := ⟨by rw [List.take_succ_eq_append_getElem hil, List.map_append]; rfl⟩
      repeat' (first
  | refine G_nilC ?_
  | refine G_nilN ?_
  | (refine G_nil ?_; try clear ri_; try clear ops_)
  | (refine V_opW ?_; first | exact True.intro | intro v_ h_ w_ r_ t_ | intro (ops_ : Array Oper) ri_ | intro (b_ : Bool) hb_ | intro v_ h_ | intro (v_ : Value) | intro (b_ : Nat) | (refine ⟨fun hc => ?_, fun hc => ?_⟩ <;> try (exfalso; omega)) | refine ⟨?_, ?_⟩ | intro _ | skip)
  | (refine Is_DQ ?_; first | (apply DQ_k rfl rfl rfl; intro mm) | (apply DQ_x rfl rfl rfl; intro mm)))
      exact At_roundS (i + 1, _) (by simp only; omega) (by simp only; omega) (by repeat (first | exact trivial | refine And.intro rfl ?_)) (by repeat (first | exact trivial | refine And.intro rfl ?_))
    · obtain rfl : i = l.length := by omega
      rw [List.take_length]
      have hd : (difL l).length = l.length := by simp
      have he : (difL (l.map (wadd · n))).length = l.length := by simp
      have hs : (sumL l).length = l.length := by simp
      have hm : (l.map (wadd · n)).length = l.length := by simp
      haveI : Fct (sumL (difL l) = l) := ⟨sum_dif hok⟩
      haveI : Fct (difL (sumL l) = l) := ⟨dif_sum hok⟩
      by_cases hz : l.length = 0
      · repeat' (first
  | refine G_nilC ?_
  | refine G_nilN ?_
  | (refine G_nil ?_; try clear ri_; try clear ops_)
  | (refine V_opW ?_; first | exact True.intro | intro v_ h_ w_ r_ t_ | intro (ops_ : Array Oper) ri_ | intro (b_ : Bool) hb_ | intro v_ h_ | intro (v_ : Value) | intro (b_ : Nat) | (refine ⟨fun hc => ?_, fun hc => ?_⟩ <;> try (exfalso; omega)) | refine ⟨?_, ?_⟩ | intro _ | skip)
  | (refine Is_DQ ?_; first | (apply DQ_k rfl rfl rfl; intro mm) | (apply DQ_x rfl rfl rfl; intro mm)))
        all_goals
          refine ret_ rfl (by repeat (first | exact ResAll.nil | (apply ResAll.cons; first | exact .tmp rfl | exact .cell rfl rfl | exact .one rfl))) fun w' h' => ?_
          exact .mk rfl h'
      · haveI : Fct (0 < (difL l).length) := ⟨by omega⟩
        haveI : Fct (0 < (difL (l.map (wadd · n))).length) := ⟨by omega⟩
        haveI : Fct (1 ≤ (difL l).length ∧ (difL l).length ≤ (difL l).length) := ⟨by omega⟩
        haveI : Fct (1 ≤ (difL (l.map (wadd · n))).length ∧ (difL (l.map (wadd · n))).length ≤ (difL (l.map (wadd · n))).length) := ⟨by omega⟩
        have e0 : (difL (l.map (wadd · n)))[0]'(by omega) = wadd ((difL l)[0]'(by omega)) n := by
          simp only [difL, List.getElem_map, List.getElem_range]
          rw [difA_zero (by omega), difA_zero (by omega), List.getElem_map]
        haveI : Fct ((difL (l.map (wadd · n)))[0]'(by omega) = wadd ((difL l)[0]'(by omega)) n) := ⟨e0⟩
        haveI : Fct (((difL (l.map (wadd · n))).drop 1).take ((difL (l.map (wadd · n))).length - 1) = ((difL l).drop 1).take ((difL l).length - 1)) := ⟨by rw [dif_shift, he, hd]⟩
        repeat' (first
  | refine G_nilC ?_
  | refine G_nilN ?_
  | (refine G_nil ?_; try clear ri_; try clear ops_)
  | (refine V_opW ?_; first | exact True.intro | intro v_ h_ w_ r_ t_ | intro (ops_ : Array Oper) ri_ | intro (b_ : Bool) hb_ | intro v_ h_ | intro (v_ : Value) | intro (b_ : Nat) | (refine ⟨fun hc => ?_, fun hc => ?_⟩ <;> try (exfalso; omega)) | refine ⟨?_, ?_⟩ | intro _ | skip)
  | (refine Is_DQ ?_; first | (apply DQ_k rfl rfl rfl; intro mm) | (apply DQ_x rfl rfl rfl; intro mm)))
        all_goals
          refine ret_ rfl (by repeat (first | exact ResAll.nil | (apply ResAll.cons; first | exact .tmp rfl | exact .cell rfl rfl | exact .one rfl))) fun w' h' => ?_
          exact .mk rfl h'
  · refine enter (N := 88) (args := [v0, I n]) Try.func5 rfl rfl rfl (St.refl w) ?_
    repeat' (first
  | refine G_nilC ?_
  | refine G_nilN ?_
  | (refine G_nil ?_; try clear ri_; try clear ops_)
  | (refine V_opW ?_; first | exact True.intro | intro v_ h_ w_ r_ t_ | intro (ops_ : Array Oper) ri_ | intro (b_ : Bool) hb_ | intro v_ h_ | intro (v_ : Value) | intro (b_ : Nat) | (refine ⟨fun hc => ?_, fun hc => ?_⟩ <;> try (exfalso; omega)) | refine ⟨?_, ?_⟩ | intro _ | skip)
  | (refine Is_DQ ?_; first | (apply DQ_k rfl rfl rfl; intro mm) | (apply DQ_x rfl rfl rfl; intro mm)))
    refine ret_ rfl (by repeat (first | exact ResAll.nil | (apply ResAll.cons; first | exact .tmp rfl | exact .cell rfl rfl | exact .one rfl))) fun w' h' => ?_
    exact .mk rfl h'
end Go.Proofs.Ytaegfjolemehaaa
