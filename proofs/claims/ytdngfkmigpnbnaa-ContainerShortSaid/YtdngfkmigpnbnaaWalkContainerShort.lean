/- The walk of ContainerShort. -/
import Derived.Test.YtdngfkmigpnbnaaCnl
set_option linter.unusedVariables false
set_option linter.unusedSimpArgs false
set_option maxRecDepth 100000
set_option maxHeartbeats 4000000
namespace Go.Proofs.Ytdngfkmigpnbnaa
open Go.RowKit
attribute [local irreducible] G GC At wpL DR XPost CPost Cut GA GAR GAX GAt NxA GH GHR NxH
attribute [local irreducible] fiB opB seB spB sumB packB

theorem walk_ContainerShort (w : World) (a0 : chapmanref09_Raw) (g0 : Rng.rng a0) [t0 : Tru w [] a0] (n : BitVec 16) (g1 : Rng.rng n) [t1 : Tru w [] n] :
    Calls Try.prog 5 #[Elt.val a0, .int .u16 (n.toNat : Int)] w (Is w (.bool true)) := by
  obtain ⟨kb, ⟨iv, il, io⟩, ⟨dv, dl, ido⟩⟩ := a0
  haveI h1 : RdOld w [] iv il := rdOld_tru (x := ⟨iv, il, io⟩) (h := ⟨t0.h.2.1⟩)
  haveI h2 : RdOld w [] dv dl := rdOld_tru (x := ⟨dv, dl, ido⟩) (h := ⟨t0.h.2.2⟩)
  haveI : One iv := ⟨io⟩
  haveI : One dv := ⟨ido⟩
  have hok : okI il := g0.2.1
  have hf := mdF_ok (k := kb) (b := dl) hok
  have hle := seB_le2 (k := kb) (b := dl) hok
  have hpos := seB_pos (mdF kb il dl)
  have hse := se_ok hf
  have hs := fun m (hm : m < (seB (mdF kb il dl)).length) => op_short hf hm
  have hot := ok_take hok
  simp only [mdF] at hle hpos hse hs
  generalize hB : seB ⟨1 + (kb.toNat : Int) % 9, il.take 40, dl.take 200⟩ = B at *
  haveI : Eqn (seE ⟨1 + (kb.toNat : Int) % 9, il.take 40, dl.take 200⟩) 0 := ⟨hse.1⟩
  haveI : Eqn (seR ⟨1 + (kb.toNat : Int) % 9, il.take 40, dl.take 200⟩) B := ⟨hse.2⟩
  have hmod : n.toNat % B.length < B.length := Nat.mod_lt _ (by omega)
  haveI : Eqn (opB ((B.drop 0).take (n.toNat % B.length - 0))) (.error 7) := ⟨by rw [List.drop_zero, Nat.sub_zero]; exact hs _ hmod⟩
  have hl : ((B.drop 0).take (n.toNat % B.length - 0)).length ≤ 34000 := by simp only [List.length_take, List.length_drop]; omega
  clear hf hse hs g0 g1 t0 t1 hok hB
  show Calls Try.prog 5 #[.agg #[B8 kb, iv, dv], .int .u16 (n.toNat : Int)] w (Is w (.bool true))
  refine enter (N := 37) (args := [.agg #[B8 kb, iv, dv], .int .u16 (n.toNat : Int)]) Try.func5 rfl rfl rfl (St.refl w) ?_
  repeat' (first
  | refine G_nilC ?_
  | refine G_nilN ?_
  | refine G_nilH ?_
  | (refine G_nil ?_; try clear ri_; try clear ops_)
  | (refine V_op ?_; first | exact True.intro | (intro v_ h_ w_ r_ t_; try (obtain ⟨ta_, tb_⟩ := (t_ : _ ∧ _)); try (obtain ⟨tb_, tc_⟩ := (tb_ : _ ∧ _)); try (obtain ⟨tc_, td_⟩ := (tc_ : _ ∧ _)); try (obtain ⟨td_, te_⟩ := (td_ : _ ∧ _))) | intro (ops_ : Array Oper) ri_ | intro (b_ : Bool) hb_ | (intro v_ h_; try (have o_ := FrzK.one h_)) | intro (v_ : Value) | intro (b_ : Nat) | (refine ⟨fun hc => ?_, fun hc => ?_⟩ <;> try (exfalso; omega)) | refine ⟨?_, ?_⟩ | intro _ | skip)
  | (refine Is_DQ ?_; first | (apply DQ_m rfl rfl rfl rfl; focus (intro wq_ Oq_ rq_ mm; (repeat (first | (refine G_nil ?_; exact X_done rfl (List.Sublist.refl _)) | refine V_op ?_)); done)) | (apply DQ_k rfl rfl rfl rfl; intro wq_ Oq_ rq_ mm) | (apply DQ_y rfl rfl rfl rfl; intro wq_ Oq_ rq_ mm)))
  refine ret_ rfl (by repeat (first | exact ResAll.nil | (apply ResAll.cons; first | exact .tmp rfl | exact .cell rfl rfl | exact .one rfl))) fun w' h' => ?_
  exact .mkB rfl h'
end Go.Proofs.Ytdngfkmigpnbnaa
