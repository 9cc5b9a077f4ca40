/- The walk of ContainerOrders. -/
import Derived.Test.YtdngfkmigpnbnaaCnl
set_option linter.unusedVariables false
set_option linter.unusedSimpArgs false
set_option maxRecDepth 100000
set_option maxHeartbeats 4000000
namespace Go.Proofs.Ytdngfkmigpnbnaa
open Go.RowKit
attribute [local irreducible] G GC At wpL DR XPost CPost Cut GA GAR GAX GAt NxA GH GHR NxH

theorem cmpI_range : ∀ (a b : List Int), -1 ≤ cmpI a b ∧ cmpI a b ≤ 1
  | [], [] => by simp [cmpI]
  | [], _ :: _ => by simp [cmpI]
  | _ :: _, [] => by simp [cmpI]
  | x :: xs, y :: ys => by
    rw [cmpI]
    split
    · omega
    · split
      · omega
      · exact cmpI_range xs ys
theorem cmpI_anti : ∀ (a b : List Int), cmpI b a = -cmpI a b
  | [], [] => by simp [cmpI]
  | [], _ :: _ => by simp [cmpI]
  | _ :: _, [] => by simp [cmpI]
  | x :: xs, y :: ys => by
    rw [cmpI, cmpI]
    by_cases h1 : x < y
    · rw [if_neg (by omega), if_pos h1, if_pos h1]; rfl
    · by_cases h2 : y < x
      · rw [if_pos h2, if_neg h1, if_pos h2]
      · rw [if_neg h2, if_neg h1, if_neg h1, if_neg h2]
        exact cmpI_anti xs ys
theorem cmpI_le : ∀ (a b c : List Int), cmpI a b ≤ 0 → cmpI b c ≤ 0 → cmpI a c ≤ 0 ∧ (cmpI a b < 0 → cmpI a c < 0)
  | [], [], [], _, _ => by simp [cmpI]
  | [], [], _ :: _, _, _ => by simp [cmpI]
  | [], _ :: _, [], _, h => by simp [cmpI] at h
  | [], _ :: _, _ :: _, _, _ => by simp [cmpI]
  | _ :: _, [], _, h, _ => by simp [cmpI] at h
  | _ :: _, _ :: _, [], _, h => by simp [cmpI] at h
  | x :: xs, y :: ys, z :: zs, h, h' => by
    rw [cmpI] at h h' ⊢
    rw [cmpI]
    by_cases h1 : x < y
    · by_cases h3 : z < y
      · rw [if_neg (by omega), if_pos h3] at h'; omega
      · rw [if_pos (show x < z by omega)]; omega
    · rw [if_neg h1] at h ⊢
      by_cases h2 : y < x
      · rw [if_pos h2] at h; omega
      · rw [if_neg h2] at h ⊢
        by_cases h3 : y < z
        · rw [if_pos (show x < z by omega)]; omega
        · rw [if_neg h3] at h'
          by_cases h4 : z < y
          · rw [if_pos h4] at h'; omega
          · rw [if_neg h4] at h'
            rw [if_neg (by omega), if_neg (by omega)]
            exact cmpI_le xs ys zs h h'
attribute [local irreducible] fiB opB seB spB sumB packB cmpI
theorem ord_a {p q : Prop} [Decidable p] [Decidable q] (hp : ¬ p) (hq : ¬ q) (h : ¬ decide p = decide q) : False := h (by rw [decide_eq_false hp, decide_eq_false hq])
theorem ord_b {p : Prop} [Decidable p] (hp : ¬ p) (h : ¬ decide p = false) : False := h (decide_eq_false hp)
theorem ord_c {p q : Prop} [Decidable p] [Decidable q] (hp : p) (hq : q) (h : ¬ decide p = decide q) : False := h (by rw [decide_eq_true hp, decide_eq_true hq])
theorem walk_ContainerOrders (w : World) (a0 : api_File) (g0 : Rng.rng a0) [t0 : Tru w [] a0] (a1 : api_File) (g1 : Rng.rng a1) [t1 : Tru w [] a1] (a2 : api_File) (g2 : Rng.rng a2) [t2 : Tru w [] a2] :
    Calls Try.prog 8 #[Elt.val a0, Elt.val a1, Elt.val a2] w (Is w (.bool true)) := by
  obtain ⟨k1, ⟨iv, il, io⟩, ⟨dv, dl, ido⟩⟩ := a0
  haveI h1 : RdOld w [] iv il := rdOld_tru (x := ⟨iv, il, io⟩) (h := ⟨t0.h.2.1⟩)
  haveI h2 : RdOld w [] dv dl := rdOld_tru (x := ⟨dv, dl, ido⟩) (h := ⟨t0.h.2.2⟩)
  haveI : One iv := ⟨io⟩
  haveI : One dv := ⟨ido⟩
  obtain ⟨k2, ⟨jv, jl, jo⟩, ⟨ev, el, jdo⟩⟩ := a1
  haveI h3 : RdOld w [] jv jl := rdOld_tru (x := ⟨jv, jl, jo⟩) (h := ⟨t1.h.2.1⟩)
  haveI h4 : RdOld w [] ev el := rdOld_tru (x := ⟨ev, el, jdo⟩) (h := ⟨t1.h.2.2⟩)
  haveI : One jv := ⟨jo⟩
  haveI : One ev := ⟨jdo⟩
  obtain ⟨k3, ⟨kv, kl, ko⟩, ⟨fv, fl, kdo⟩⟩ := a2
  haveI h5 : RdOld w [] kv kl := rdOld_tru (x := ⟨kv, kl, ko⟩) (h := ⟨t2.h.2.1⟩)
  haveI h6 : RdOld w [] fv fl := rdOld_tru (x := ⟨fv, fl, kdo⟩) (h := ⟨t2.h.2.2⟩)
  haveI : One kv := ⟨ko⟩
  haveI : One fv := ⟨kdo⟩
  have l1 := h1.rd.len_le
  have l3 := h3.rd.len_le
  have l5 := h5.rd.len_le
  have c1 := cmpI_range (k1 :: il) (k2 :: jl)
  have c2 := cmpI_anti (k1 :: il) (k2 :: jl)
  have c3 := cmpI_le (k1 :: il) (k2 :: jl) (k3 :: kl)
  have c4 : cmpI (k1 :: il) (k1 :: il) = 0 := cmpI_eq.2 rfl
  have c5 : cmpI (k1 :: il) (k2 :: jl) = 0 ↔ k1 = k2 ∧ il = jl := by rw [cmpI_eq, List.cons.injEq]
  clear g0 g1 g2 t0 t1 t2
  show Calls Try.prog 8 #[.agg #[I k1, iv, dv], .agg #[I k2, jv, ev], .agg #[I k3, kv, fv]] w (Is w (.bool true))
  by_cases he : k1 = k2 ∧ il = jl
  · have c6 := c5.2 he
    obtain ⟨rfl, rfl⟩ := he
    refine enter (N := 116) (args := [.agg #[I k1, iv, dv], .agg #[I k1, jv, ev], .agg #[I k3, kv, fv]]) Try.func8 rfl rfl rfl (St.refl w) ?_
    repeat' (first
  | refine G_nilC ?_
  | refine G_nilN ?_
  | refine G_nilH ?_
  | (refine G_nil ?_; try clear ri_; try clear ops_)
  | (refine V_op ?_; first | exact True.intro | (intro v_ h_ w_ r_ t_; try (obtain ⟨ta_, tb_⟩ := (t_ : _ ∧ _)); try (obtain ⟨tb_, tc_⟩ := (tb_ : _ ∧ _)); try (obtain ⟨tc_, td_⟩ := (tc_ : _ ∧ _)); try (obtain ⟨td_, te_⟩ := (td_ : _ ∧ _))) | intro (ops_ : Array Oper) ri_ | intro (b_ : Bool) hb_ | (intro v_ h_; try (have o_ := FrzK.one h_)) | intro (v_ : Value) | intro (b_ : Nat) | (refine ⟨fun hc => ?_, fun hc => ?_⟩ <;> try (exfalso; omega)) | refine ⟨?_, ?_⟩ | intro _ | skip)
  | (refine Is_DQ ?_; first | (apply DQ_m rfl rfl rfl rfl; focus (intro wq_ Oq_ rq_ mm; (repeat (first | (refine G_nil ?_; exact X_done rfl (List.Sublist.refl _)) | refine V_op ?_)); done)) | (apply DQ_k rfl rfl rfl rfl; intro wq_ Oq_ rq_ mm) | (apply DQ_y rfl rfl rfl rfl; intro wq_ Oq_ rq_ mm)))
    all_goals first
      | (refine ret_ rfl (ResAll.cons (.tmp rfl) ResAll.nil) fun w' h' => ?_; exact .mkB rfl h')
      | exact (ord_c c6 rfl hc).elim
  · have c6 : ¬ cmpI (k1 :: il) (k2 :: jl) = 0 := fun h => he (c5.1 h)
    clear c5
    refine enter (N := 116) (args := [.agg #[I k1, iv, dv], .agg #[I k2, jv, ev], .agg #[I k3, kv, fv]]) Try.func8 rfl rfl rfl (St.refl w) ?_
    repeat' (first
  | refine G_nilC ?_
  | refine G_nilN ?_
  | refine G_nilH ?_
  | (refine G_nil ?_; try clear ri_; try clear ops_)
  | (refine V_op ?_; first | exact True.intro | (intro v_ h_ w_ r_ t_; try (obtain ⟨ta_, tb_⟩ := (t_ : _ ∧ _)); try (obtain ⟨tb_, tc_⟩ := (tb_ : _ ∧ _)); try (obtain ⟨tc_, td_⟩ := (tc_ : _ ∧ _)); try (obtain ⟨td_, te_⟩ := (td_ : _ ∧ _))) | intro (ops_ : Array Oper) ri_ | intro (b_ : Bool) hb_ | (intro v_ h_; try (have o_ := FrzK.one h_)) | intro (v_ : Value) | intro (b_ : Nat) | (refine ⟨fun hc => ?_, fun hc => ?_⟩ <;> try (exfalso; omega)) | refine ⟨?_, ?_⟩ | intro _ | skip)
  | (refine Is_DQ ?_; first | (apply DQ_m rfl rfl rfl rfl; focus (intro wq_ Oq_ rq_ mm; (repeat (first | (refine G_nil ?_; exact X_done rfl (List.Sublist.refl _)) | refine V_op ?_)); done)) | (apply DQ_k rfl rfl rfl rfl; intro wq_ Oq_ rq_ mm) | (apply DQ_y rfl rfl rfl rfl; intro wq_ Oq_ rq_ mm)))
    all_goals first
      | (refine ret_ rfl (ResAll.cons (.tmp rfl) ResAll.nil) fun w' h' => ?_; exact .mkB rfl h')
      | exact (ord_a c6 (fun h => he ⟨‹k1 = k2›, h⟩) hc).elim
      | exact (ord_b c6 hc).elim
end Go.Proofs.Ytdngfkmigpnbnaa
