/- The walk of RunsLeast. -/
import Derived.Test.YtaegfjolemehaaaRnn
import Derived.Test.YtaegfjolemehaaaTyps
set_option linter.unusedVariables false
set_option linter.unusedSimpArgs false
set_option maxRecDepth 100000
set_option maxHeartbeats 4000000
namespace Go.Proofs.Ytaegfjolemehaaa
open Go.RowKit
attribute [local irreducible] G GC At wpL DR XPost CPost Cut GA GAR GAX GAt NxA
attribute [local irreducible] kd fS encB packB

theorem walk_RunsLeast (w : World) (a0 : Sl Int) (g0 : Rng.rng a0) [t0 : Tru w [] a0] (x : Int) (g1 : Rng.rng x) [t1 : Tru w [] x] (y : Int) (g2 : Rng.rng y) [t2 : Tru w [] y] :
    Calls Try.prog 7 #[a0.v, I x, I y] w (Is w (.bool true)) := by
  obtain ⟨v0, l, o0⟩ := a0
  haveI h : RdOld w [] v0 l := rdOld_tru (x := ⟨v0, l, o0⟩)
  haveI : One v0 := ⟨o0⟩
  have hok : okI l := g0
  have hlen := h.rd.len_le
  obtain ⟨x0, x1⟩ : -9223372036854775808 ≤ x ∧ x ≤ 9223372036854775807 := g1
  obtain ⟨y0, y1⟩ : -9223372036854775808 ≤ y ∧ y ≤ 9223372036854775807 := g2
  by_cases hl : l.length ≤ 300
  · haveI : Eqn (enB l) (encB l) := ⟨en_small (by omega)⟩
    haveI : Eqn (enE l) 0 := ⟨ee_small (by omega)⟩
    have hk := kd_lt l
    have hle := fB_le (k := kd l) hok (by omega)
    have hel : (encB l).length = fS (kd l) l + 1 := by simp [encB, fS]
    haveI : Fct (0 < (encB l).length) := ⟨by omega⟩
    have he0 : ((encB l)[0]'(by omega)).toNat = (BitVec.ofNat 8 (kd l)).toNat := by simp [encB]
    refine enter (N := 130) (args := [v0, I x, I y]) Try.func7 rfl rfl rfl (St.refl w) ?_
    repeat' (first
  | refine G_nilC ?_
  | refine G_nilN ?_
  | (refine G_nil ?_; try clear ri_; try clear ops_)
  | (refine V_opW ?_; first | exact True.intro | intro v_ h_ w_ r_ t_ | intro (ops_ : Array Oper) ri_ | intro (b_ : Bool) hb_ | intro v_ h_ | intro (v_ : Value) | intro (b_ : Nat) | (refine ⟨fun hc => ?_, fun hc => ?_⟩ <;> try (exfalso; omega)) | refine ⟨?_, ?_⟩ | intro _ | skip)
  | (refine Is_DQ ?_; first | (apply DQ_k rfl rfl rfl; intro mm) | (apply DQ_x rfl rfl rfl; intro mm)))
    refine GC_loopS (X := Nat) (fun i => i ≤ 4) (fun i s => (10, I i) :: s) (fun _ q => q) (fun i => 4 - i) 0 (by omega) (by repeat (first | exact trivial | refine And.intro rfl ?_)) ?_
    intro i hi
    by_cases hi4 : i < 4
    · obtain ⟨l1, l2⟩ := kd_least l hi4
      repeat' (first
  | refine G_nilC ?_
  | refine G_nilN ?_
  | (refine G_nil ?_; try clear ri_; try clear ops_)
  | (refine V_opW ?_; first | exact True.intro | intro v_ h_ w_ r_ t_ | intro (ops_ : Array Oper) ri_ | intro (b_ : Bool) hb_ | intro v_ h_ | intro (v_ : Value) | intro (b_ : Nat) | (refine ⟨fun hc => ?_, fun hc => ?_⟩ <;> try (exfalso; omega)) | refine ⟨?_, ?_⟩ | intro _ | skip)
  | (refine Is_DQ ?_; first | (apply DQ_k rfl rfl rfl; intro mm) | (apply DQ_x rfl rfl rfl; intro mm)))
      all_goals exact At_roundS (i + 1) (by omega) (by omega) (by repeat (first | exact trivial | refine And.intro rfl ?_)) (by repeat (first | exact trivial | refine And.intro rfl ?_))
    · obtain rfl : i = 4 := by omega
      repeat' (first
  | refine G_nilC ?_
  | refine G_nilN ?_
  | (refine G_nil ?_; try clear ri_; try clear ops_)
  | (refine V_opW ?_; first | exact True.intro | intro v_ h_ w_ r_ t_ | intro (ops_ : Array Oper) ri_ | intro (b_ : Bool) hb_ | intro v_ h_ | intro (v_ : Value) | intro (b_ : Nat) | (refine ⟨fun hc => ?_, fun hc => ?_⟩ <;> try (exfalso; omega)) | refine ⟨?_, ?_⟩ | intro _ | skip)
  | (refine Is_DQ ?_; first | (apply DQ_k rfl rfl rfl; intro mm) | (apply DQ_x rfl rfl rfl; intro mm)))
      have hn : 13 * l.length ≤ 3900 := by omega
      refine GC_loopS (X := Nat × Value × Value) (fun i => i.1 ≤ 13 * l.length) (fun i s => (13, I i.1) :: (12, i.2.2) :: (11, i.2.1) :: s) (fun i q => row i.2.1 3 (List.replicate i.1 x) :: row i.2.2 3 (stpL x y i.1) :: q) (fun i => 13 * l.length - i.1) (0, _, _) (Nat.zero_le _) (by repeat (first | exact trivial | refine And.intro rfl ?_)) ?_
        (hm0 := by show row _ 3 ([] : List Int) :: row _ 3 ([] : List Int) :: [] = _; exact rfl)
      rintro ⟨i, q1, q2⟩ hi
      simp only at hi ⊢
      have hr1 : (List.replicate i x).length = i := by simp
      have hr2 : (stpL x y i).length = i := by simp [stpL]
      by_cases hin : i < 13 * l.length
      · haveI : AppN (stpL x y i) [wadd x (wmul i y)] (stpL x y (i + 1)) := ⟨by simp [stpL, List.range_succ]⟩
        repeat' (first
  | refine G_nilC ?_
  | refine G_nilN ?_
  | (refine G_nil ?_; try clear ri_; try clear ops_)
  | (refine V_opW ?_; first | exact True.intro | intro v_ h_ w_ r_ t_ | intro (ops_ : Array Oper) ri_ | intro (b_ : Bool) hb_ | intro v_ h_ | intro (v_ : Value) | intro (b_ : Nat) | (refine ⟨fun hc => ?_, fun hc => ?_⟩ <;> try (exfalso; omega)) | refine ⟨?_, ?_⟩ | intro _ | skip)
  | (refine Is_DQ ?_; first | (apply DQ_k rfl rfl rfl; intro mm) | (apply DQ_x rfl rfl rfl; intro mm)))
        all_goals exact At_roundS (i + 1, _, _) (by simp only; omega) (by simp only; omega) (by repeat (first | exact trivial | refine And.intro rfl ?_)) (by repeat (first | exact trivial | refine And.intro rfl ?_))
      · obtain rfl : i = 13 * l.length := by omega
        have s1 := enc_same x (n := 13 * l.length) (by omega)
        have s2 := enc_steps x y (n := 13 * l.length) (by omega) ⟨x0, x1⟩ ⟨y0, y1⟩
        have s3 : okI (List.replicate (13 * l.length) x) := fun z hz => by rw [(List.mem_replicate.1 hz).2]; exact ⟨x0, x1⟩
        have s4 := stp_ok x y (13 * l.length)
        haveI : Eqn (enB (List.replicate (13 * l.length) x)) (encB (List.replicate (13 * l.length) x)) := ⟨en_small (by omega)⟩
        haveI : Eqn (enE (List.replicate (13 * l.length) x)) 0 := ⟨ee_small (by omega)⟩
        haveI : Eqn (enB (stpL x y (13 * l.length))) (encB (stpL x y (13 * l.length))) := ⟨en_small (by omega)⟩
        haveI : Eqn (enE (stpL x y (13 * l.length))) 0 := ⟨ee_small (by omega)⟩
        repeat' (first
  | refine G_nilC ?_
  | refine G_nilN ?_
  | (refine G_nil ?_; try clear ri_; try clear ops_)
  | (refine V_opW ?_; first | exact True.intro | intro v_ h_ w_ r_ t_ | intro (ops_ : Array Oper) ri_ | intro (b_ : Bool) hb_ | intro v_ h_ | intro (v_ : Value) | intro (b_ : Nat) | (refine ⟨fun hc => ?_, fun hc => ?_⟩ <;> try (exfalso; omega)) | refine ⟨?_, ?_⟩ | intro _ | skip)
  | (refine Is_DQ ?_; first | (apply DQ_k rfl rfl rfl; intro mm) | (apply DQ_x rfl rfl rfl; intro mm)))
        all_goals
          refine ret_ rfl (by repeat (first | exact ResAll.nil | (apply ResAll.cons; first | exact .tmp rfl | exact .cell rfl rfl | exact .one rfl))) fun w' h' => ?_
          exact .mk rfl h'
  · refine enter (N := 130) (args := [v0, I x, I y]) Try.func7 rfl rfl rfl (St.refl w) ?_
    repeat' (first
  | refine G_nilC ?_
  | refine G_nilN ?_
  | (refine G_nil ?_; try clear ri_; try clear ops_)
  | (refine V_op ?_; first | exact True.intro | intro v_ h_ w_ r_ t_ | intro (ops_ : Array Oper) ri_ | intro (b_ : Bool) hb_ | intro v_ h_ | intro (v_ : Value) | intro (b_ : Nat) | (refine ⟨fun hc => ?_, fun hc => ?_⟩ <;> try (exfalso; omega)) | refine ⟨?_, ?_⟩ | intro _ | skip)
  | (refine Is_DQ ?_; first | (apply DQ_k rfl rfl rfl; intro mm) | (apply DQ_x rfl rfl rfl; intro mm)))
    refine ret_ rfl (by repeat (first | exact ResAll.nil | (apply ResAll.cons; first | exact .tmp rfl | exact .cell rfl rfl | exact .one rfl))) fun w' h' => ?_
    exact .mk rfl h'
end Go.Proofs.Ytaegfjolemehaaa
