/- The walk of ContainerDamage. -/
import Derived.Test.YtdngfkmigpnbnaaCnl
set_option linter.unusedVariables false
set_option linter.unusedSimpArgs false
set_option maxRecDepth 100000
set_option maxHeartbeats 4000000
namespace Go.Proofs.Ytdngfkmigpnbnaa
open Go.RowKit
attribute [local irreducible] G GC At wpL DR XPost CPost Cut GA GAR GAX GAt NxA GH GHR NxH
attribute [local irreducible] fiB opB seB spB sumB packB

theorem ord_a {p q : Prop} [Decidable p] [Decidable q] (hp : ¬ p) (hq : ¬ q) (h : ¬ decide p = decide q) : False := h (by rw [decide_eq_false hp, decide_eq_false hq])
theorem ord_c {p q : Prop} [Decidable p] [Decidable q] (hp : p) (hq : q) (h : ¬ decide p = decide q) : False := h (by rw [decide_eq_true hp, decide_eq_true hq])
theorem walk_ContainerDamage (w : World) (a0 : chapmanref09_Raw) (g0 : Rng.rng a0) [t0 : Tru w [] a0] (n : BitVec 16) (g1 : Rng.rng n) [t1 : Tru w [] n] (x : BitVec 8) (g2 : Rng.rng x) [t2 : Tru w [] x] :
    Calls Try.prog 6 #[Elt.val a0, .int .u16 (n.toNat : Int), B8 x] w (Is w (.bool true)) := by
  obtain ⟨kb, ⟨iv, il, io⟩, ⟨dv, dl, ido⟩⟩ := a0
  haveI h1 : RdOld w [] iv il := rdOld_tru (x := ⟨iv, il, io⟩) (h := ⟨t0.h.2.1⟩)
  haveI h2 : RdOld w [] dv dl := rdOld_tru (x := ⟨dv, dl, ido⟩) (h := ⟨t0.h.2.2⟩)
  haveI : One iv := ⟨io⟩
  haveI : One dv := ⟨ido⟩
  have hok : okI il := g0.2.1
  have hf := mdF_ok (k := kb) (b := dl) hok
  have hle := seB_le2 (k := kb) (b := dl) hok
  have hpos := seB_pos (mdF kb il dl)
  have hse := se_ok hf
  have hop := op_se hf
  have hmo := op_more hf x []
  have hst : ∀ (g : Fl) (i : Nat) (y : BitVec 8), i < (seB (mdF kb il dl)).length → (seB (mdF kb il dl)).set i y = seB g → (seB (mdF kb il dl))[i]? = some y := fun g i y hi hs => by
    rw [List.getElem?_eq_getElem hi, se_set hi hs]
  have hot := ok_take hok
  simp only [mdF] at hle hpos hse hop hmo hst
  generalize hB : seB ⟨1 + (kb.toNat : Int) % 9, il.take 40, dl.take 200⟩ = B at *
  haveI : Eqn (seE ⟨1 + (kb.toNat : Int) % 9, il.take 40, dl.take 200⟩) 0 := ⟨hse.1⟩
  haveI : Eqn (seR ⟨1 + (kb.toNat : Int) % 9, il.take 40, dl.take 200⟩) B := ⟨hse.2⟩
  haveI : Eqn (opB (B ++ [x])) (.error 8) := ⟨hmo⟩
  have hl1 : (B ++ [x]).length ≤ 35000 := by simp only [List.length_append, List.length_cons, List.length_nil]; omega
  have hmod : n.toNat % B.length < B.length := Nat.mod_lt _ (by omega)
  have hset : (B.set (n.toNat % B.length) x).length = B.length := List.length_set
  clear hf hse g0 g1 g2 t0 t1 t2 hok hB hmo
  show Calls Try.prog 6 #[.agg #[B8 kb, iv, dv], .int .u16 (n.toNat : Int), B8 x] w (Is w (.bool true))
  by_cases hx : B[n.toNat % B.length] = x
  · haveI : Eqn (opB (B.set (n.toNat % B.length) x)) (.ok ⟨1 + (kb.toNat : Int) % 9, il.take 40, dl.take 200⟩) := ⟨by
      rw [← hx, List.set_getElem_self]; exact hop⟩
    have hxn : (B[n.toNat % B.length]).toNat = x.toNat := by rw [hx]
    have hxi : (x.toNat : Int) = (B[n.toNat % B.length]).toNat := by omega
    clear hop hst
    refine enter (N := 81) (args := [.agg #[B8 kb, iv, dv], .int .u16 (n.toNat : Int), B8 x]) Try.func6 rfl rfl rfl (St.refl w) ?_
    repeat' (first
  | refine G_nilC ?_
  | refine G_nilN ?_
  | refine G_nilH ?_
  | (refine G_nil ?_; try clear ri_; try clear ops_)
  | (refine V_op ?_; first | exact True.intro | (intro v_ h_ w_ r_ t_; try (obtain ⟨ta_, tb_⟩ := (t_ : _ ∧ _)); try (obtain ⟨tb_, tc_⟩ := (tb_ : _ ∧ _)); try (obtain ⟨tc_, td_⟩ := (tc_ : _ ∧ _)); try (obtain ⟨td_, te_⟩ := (td_ : _ ∧ _))) | intro (ops_ : Array Oper) ri_ | intro (b_ : Bool) hb_ | (intro v_ h_; try (have o_ := FrzK.one h_)) | intro (v_ : Value) | intro (b_ : Nat) | (refine ⟨fun hc => ?_, fun hc => ?_⟩ <;> try (exfalso; omega)) | refine ⟨?_, ?_⟩ | intro _ | skip)
  | (refine Is_DQ ?_; first | (apply DQ_m rfl rfl rfl rfl; focus (intro wq_ Oq_ rq_ mm; (repeat (first | (refine G_nil ?_; exact X_done rfl (List.Sublist.refl _)) | refine V_op ?_)); done)) | (apply DQ_k rfl rfl rfl rfl; intro wq_ Oq_ rq_ mm) | (apply DQ_y rfl rfl rfl rfl; intro wq_ Oq_ rq_ mm)))
    all_goals first
      | (refine ret_ rfl (ResAll.cons (.tmp rfl) ResAll.nil) fun w' h' => ?_; exact .mkB rfl h')
      | exact (ord_c rfl hxi hc).elim
  · have hxn : ¬ (B[n.toNat % B.length]).toNat = x.toNat := fun h => hx (BitVec.eq_of_toNat_eq h)
    have hxi : ¬ (x.toNat : Int) = (B[n.toNat % B.length]).toNat := by omega
    cases ho : opB (B.set (n.toNat % B.length) x) with
    | ok g =>
      obtain ⟨_, hg⟩ := op_ok ho
      have := hst g _ x hmod hg.symm
      rw [List.getElem?_eq_getElem hmod] at this
      exact absurd (Option.some.inj this) hx
    | error e =>
      have he := op_err ho
      have he0 : ¬ e = 0 := by omega
      haveI : Eqn (opB (B.set (n.toNat % B.length) x)) (.error e) := ⟨ho⟩
      clear hop hst
      refine enter (N := 81) (args := [.agg #[B8 kb, iv, dv], .int .u16 (n.toNat : Int), B8 x]) Try.func6 rfl rfl rfl (St.refl w) ?_
      repeat' (first
  | refine G_nilC ?_
  | refine G_nilN ?_
  | refine G_nilH ?_
  | (refine G_nil ?_; try clear ri_; try clear ops_)
  | (refine V_op ?_; first | exact True.intro | (intro v_ h_ w_ r_ t_; try (obtain ⟨ta_, tb_⟩ := (t_ : _ ∧ _)); try (obtain ⟨tb_, tc_⟩ := (tb_ : _ ∧ _)); try (obtain ⟨tc_, td_⟩ := (tc_ : _ ∧ _)); try (obtain ⟨td_, te_⟩ := (td_ : _ ∧ _))) | intro (ops_ : Array Oper) ri_ | intro (b_ : Bool) hb_ | (intro v_ h_; try (have o_ := FrzK.one h_)) | intro (v_ : Value) | intro (b_ : Nat) | (refine ⟨fun hc => ?_, fun hc => ?_⟩ <;> try (exfalso; omega)) | refine ⟨?_, ?_⟩ | intro _ | skip)
  | (refine Is_DQ ?_; first | (apply DQ_m rfl rfl rfl rfl; focus (intro wq_ Oq_ rq_ mm; (repeat (first | (refine G_nil ?_; exact X_done rfl (List.Sublist.refl _)) | refine V_op ?_)); done)) | (apply DQ_k rfl rfl rfl rfl; intro wq_ Oq_ rq_ mm) | (apply DQ_y rfl rfl rfl rfl; intro wq_ Oq_ rq_ mm)))
      all_goals first
        | (refine ret_ rfl (ResAll.cons (.tmp rfl) ResAll.nil) fun w' h' => ?_; exact .mkB rfl h')
        | exact (ord_a he0 hxi hc).elim
end Go.Proofs.Ytdngfkmigpnbnaa
