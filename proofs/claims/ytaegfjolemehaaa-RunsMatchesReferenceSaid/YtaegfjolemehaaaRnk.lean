/- Runs: contracts of what the laws call; examples. -/
import Derived.Test.YtaegfjolemehaaaRnj
set_option linter.unusedVariables false
set_option linter.unusedSimpArgs false
set_option maxRecDepth 100000
set_option maxHeartbeats 4000000
namespace Go.Proofs.Ytaegfjolemehaaa
open Go.RowKit
attribute [local irreducible] G GC At wpL DR XPost CPost Cut GA GAR GAX GAt NxA GH GHR NxH

/-- what is decoded: a list and the rest -/
class DcT (w : World) (O : List Nat) (i : Sl Int × Sl (BitVec 8)) (l : outParam (List Int)) (b : outParam (List (BitVec 8))) : Prop where
  t : Tru w O i
  e1 : i.1.l = l
  e2 : i.2.l = b
section
variable {w0 : World} {O : List Nat} {m : List As} {v u v' u' : Value} {l l' : List Int} {bs b b' : List (BitVec 8)} {e e' : Int} {i : Sl Int × Sl (BitVec 8)} {off : Nat}
instance (priority := high) rdOld_dc1 [h : DcT w0 O i l b] : RdOld w0 O i.1.v l := ⟨by rw [← h.e1]; exact h.t.h.1.1⟩
instance (priority := high) rdOld_dc2 [h : DcT w0 O i l b] : RdOld w0 O i.2.v b := ⟨by rw [← h.e2]; exact h.t.h.2.1⟩
instance (priority := high) [h : RdOld w0 O v bs] [hr : Eqn (dcB bs) (.ok (l, off))] : CallD Try.prog w0 O m 27 [v] True (fun _ : Sl Int × Sl (BitVec 8) => True) (fun i => .agg #[i.1.v, i.2.v, I 0]) (fun i w O => DcT w O i l (bs.drop off)) := ⟨fun _ w hw => (ref_Decode w0 O m v bs _ hr.eq w hw).mono (by
  rintro e w' ⟨i, ⟨h1, h2⟩, h3, h4, h5⟩
  exact ⟨i, trivial, h3, h4, h5, h1, h2⟩)⟩
instance (priority := high) [h : RdOld w0 O v bs] [hr : Eqn (dcB bs) (.error e)] : CallV Try.prog w0 O m 27 [v] True (.agg #[.slice none 0 0, .slice none 0 0, I e]) := ⟨fun _ w hw => (ref_Decode w [] [] v bs (h := RdOld.of (h.old.now w hw)) _ hr.eq w (St.refl w)).mono (by
  rintro e w' ⟨i, _, h3, h4, _⟩
  exact ⟨h3, h4⟩)⟩
instance (priority := high) [h : RdOld w0 O v bs] [hr : Eqn (dcB bs) (.ok (l, off))] : CallD Try.prog w0 O m 26 [v] True (fun _ : Sl Int × Sl (BitVec 8) => True) (fun i => .agg #[i.1.v, i.2.v, I 0]) (fun i w O => DcT w O i l (bs.drop off)) := ⟨fun _ w hw => (law_decoded w0 O m v bs _ hr.eq w hw).mono (by
  rintro e w' ⟨i, ⟨h1, h2⟩, h3, h4, h5⟩
  exact ⟨i, trivial, h3, h4, h5, h1, h2⟩)⟩
instance (priority := high) [h : RdR w0 O m v bs] [hr : Eqn (dcB bs) (.error e)] : CallV Try.prog w0 O m 26 [v] True (.agg #[.slice none 0 0, .slice none 0 0, I e]) := ⟨fun _ w hw => (law_decoded w [] [] v bs (h := RdOld.of (h.rd w hw)) _ hr.eq w (St.refl w)).mono (by
  rintro e w' ⟨i, _, h3, h4, _⟩
  exact ⟨h3, h4⟩)⟩
instance [h : RdR w0 O m v l] : CallR Try.prog w0 O m 15 [v] (l.length ≤ 100000) (fun _ : Value × Value => True) (fun r => .agg #[r.1, r.2]) (fun r => row r.1 3 (rvs l) :: row r.2 3 (rls l) :: m) :=
  .new (M := fun r : Value × Value => [row r.1 _ (rvs l), row r.2 _ (rls l)]) fun hs w hw => @law_runsOf w v l (RdOld.of (h.rd w hw)) hs
instance [h : RdR w0 O m v l] [hb : Eqn (enB l) b] [he : Eqn (enE l) e] : CallR Try.prog w0 O m 10 [v] (okI l) (fun _ : Value => True) (fun r => .agg #[r, I e]) (fun r => row r 5 b :: m) :=
  .new1 (M := fun r => row r _ b) fun hs w hw => by rw [← hb.eq, ← he.eq]; exact @law_encoded w v l (RdOld.of (h.rd w hw)) hs
instance (priority := high) {vs ls x : List Int} [h : RdR w0 O m v vs] [h' : RdR w0 O m u ls] [hr : Eqn (expE vs ls) (.ok x)] : CallR Try.prog w0 O m 12 [.agg #[v, u]] (vs.length ≤ 100000 ∧ ls.length ≤ 100000) (fun _ : Value => True) (fun q => .agg #[q, I 0]) (fun q => row q 3 x :: m) :=
  .new1 (M := fun q => row q _ x) fun hs w hw => @law_expanded w v u vs ls (RdOld.of (h.rd w hw)) (RdOld.of (h'.rd w hw)) hs.1 hs.2 _ hr.eq
instance (priority := high) {vs ls : List Int} [h : RdR w0 O m v vs] [h' : RdR w0 O m u ls] [hr : Eqn (expE vs ls) (.error e)] : CallR Try.prog w0 O m 12 [.agg #[v, u]] (vs.length ≤ 100000 ∧ ls.length ≤ 100000) (fun _ : Value => True) (fun _ => .agg #[.slice none 0 0, I e]) (fun q => row q 3 ([] : List Int) :: m) :=
  .new1 (M := fun q => row q _ []) fun hs w hw => @law_expanded w v u vs ls (RdOld.of (h.rd w hw)) (RdOld.of (h'.rd w hw)) hs.1 hs.2 _ hr.eq
end
theorem law_samePair (w : World) (v u v' u' : Value) (a b a' b' : List Int) [RdOld w [] v a] [RdOld w [] u b] [RdOld w [] v' a'] [RdOld w [] u' b'] : Calls Try.prog 14 #[.agg #[v, u], .agg #[v', u']] w (Is w (.bool (decide (a = a' ∧ b = b')))) := by
  refine enter (N := 17) (args := [.agg #[v, u], .agg #[v', u']]) Try.func14 rfl rfl rfl (St.refl w) ?_
  repeat' (first
  | refine G_nilC ?_
  | refine G_nilN ?_
  | refine G_nilH ?_
  | (refine G_nil ?_; try clear ri_; try clear ops_)
  | (refine V_op ?_; first | exact True.intro | intro v_ h_ w_ r_ t_ | intro (ops_ : Array Oper) ri_ | intro (b_ : Bool) hb_ | intro v_ h_ | intro (v_ : Value) | intro (b_ : Nat) | (refine ⟨fun hc => ?_, fun hc => ?_⟩ <;> try (exfalso; omega)) | refine ⟨?_, ?_⟩ | intro _ | skip)
  | (refine Is_DQ ?_; first | (apply DQ_k rfl rfl rfl; intro mm) | (apply DQ_x rfl rfl rfl; intro mm)))
  all_goals
    refine ret_ rfl (by repeat (first | exact ResAll.nil | (apply ResAll.cons; first | exact .tmp rfl | exact .cell rfl rfl | exact .one rfl))) fun w' h' => ?_
    refine .mk ?_ h'
    simp_all [retV]
theorem ref_Same4 (w : World) (v u v' u' : Value) (a a' : List Int) (b b' : List (BitVec 8)) (e e' : Int) [RdOld w [] v a] [RdOld w [] u b] [RdOld w [] v' a'] [RdOld w [] u' b'] : Calls Try.prog 25 #[.agg #[v, u, I e], .agg #[v', u', I e']] w (Is w (.bool (decide (e = e' ∧ a = a' ∧ b = b')))) := by
  refine enter (N := 24) (args := [.agg #[v, u, I e], .agg #[v', u', I e']]) Try.func25 rfl rfl rfl (St.refl w) ?_
  repeat' (first
  | refine G_nilC ?_
  | refine G_nilN ?_
  | refine G_nilH ?_
  | (refine G_nil ?_; try clear ri_; try clear ops_)
  | (refine V_op ?_; first | exact True.intro | intro v_ h_ w_ r_ t_ | intro (ops_ : Array Oper) ri_ | intro (b_ : Bool) hb_ | intro v_ h_ | intro (v_ : Value) | intro (b_ : Nat) | (refine ⟨fun hc => ?_, fun hc => ?_⟩ <;> try (exfalso; omega)) | refine ⟨?_, ?_⟩ | intro _ | skip)
  | (refine Is_DQ ?_; first | (apply DQ_k rfl rfl rfl; intro mm) | (apply DQ_x rfl rfl rfl; intro mm)))
  all_goals
    refine ret_ rfl (by repeat (first | exact ResAll.nil | (apply ResAll.cons; first | exact .tmp rfl | exact .cell rfl rfl | exact .one rfl))) fun w' h' => ?_
    refine .mk ?_ h'
    simp_all [retV]
theorem law_size (w : World) (k : Nat) (v : Value) (l : List Int) [h : RdOld w [] v l] (hk : k < 4) (hi : okI l) (hl : l.length ≤ 4096) : Calls Try.prog 28 #[I k, v] w (Is w (I (fS k l))) := by
  have h1 := okI_rvs hi
  have h2 := okI_rls (l := l) (by omega)
  have h3 := rvs_len l
  have h4 := rls_len l
  have h5 := (packB_le (l := rvs l) (by omega)).1
  have h6 := (packB_le (l := rls l) (by omega)).1
  have d0 := okI_dif hi
  have dl : (difL l).length = l.length := by simp
  have d1 := okI_rvs d0
  have d2 := okI_rls (l := difL l) (by omega)
  have d3 := rvs_len (difL l)
  have d4 := rls_len (difL l)
  have d5 := (packB_le (l := rvs (difL l)) (by omega)).1
  have d6 := (packB_le (l := rls (difL l)) (by omega)).1
  rcases (by omega : k = 0 ∨ k = 1 ∨ k = 2 ∨ k = 3) with rfl | rfl | rfl | rfl
  · refine enter (N := 24) (args := [I (0 : Nat), v]) Try.func28 rfl rfl rfl (St.refl w) ?_
    repeat' (first
  | refine G_nilC ?_
  | refine G_nilN ?_
  | refine G_nilH ?_
  | (refine G_nil ?_; try clear ri_; try clear ops_)
  | (refine V_op ?_; first | exact True.intro | intro v_ h_ w_ r_ t_ | intro (ops_ : Array Oper) ri_ | intro (b_ : Bool) hb_ | intro v_ h_ | intro (v_ : Value) | intro (b_ : Nat) | (refine ⟨fun hc => ?_, fun hc => ?_⟩ <;> try (exfalso; omega)) | refine ⟨?_, ?_⟩ | intro _ | skip)
  | (refine Is_DQ ?_; first | (apply DQ_k rfl rfl rfl; intro mm) | (apply DQ_x rfl rfl rfl; intro mm)))
    all_goals
      refine ret_ rfl (by repeat (first | exact ResAll.nil | (apply ResAll.cons; first | exact .tmp rfl | exact .cell rfl rfl | exact .one rfl))) fun w' h' => ?_
      refine .mk ?_ h'
      simp [fS, fB, lst, lstA, retV]
  · refine enter (N := 24) (args := [I (1 : Nat), v]) Try.func28 rfl rfl rfl (St.refl w) ?_
    repeat' (first
  | refine G_nilC ?_
  | refine G_nilN ?_
  | refine G_nilH ?_
  | (refine G_nil ?_; try clear ri_; try clear ops_)
  | (refine V_op ?_; first | exact True.intro | intro v_ h_ w_ r_ t_ | intro (ops_ : Array Oper) ri_ | intro (b_ : Bool) hb_ | intro v_ h_ | intro (v_ : Value) | intro (b_ : Nat) | (refine ⟨fun hc => ?_, fun hc => ?_⟩ <;> try (exfalso; omega)) | refine ⟨?_, ?_⟩ | intro _ | skip)
  | (refine Is_DQ ?_; first | (apply DQ_k rfl rfl rfl; intro mm) | (apply DQ_x rfl rfl rfl; intro mm)))
    all_goals
      refine ret_ rfl (by repeat (first | exact ResAll.nil | (apply ResAll.cons; first | exact .tmp rfl | exact .cell rfl rfl | exact .one rfl))) fun w' h' => ?_
      refine .mk ?_ h'
      simp [fS, fB, lst, lstA, retV]
  · refine enter (N := 24) (args := [I (2 : Nat), v]) Try.func28 rfl rfl rfl (St.refl w) ?_
    repeat' (first
  | refine G_nilC ?_
  | refine G_nilN ?_
  | refine G_nilH ?_
  | (refine G_nil ?_; try clear ri_; try clear ops_)
  | (refine V_op ?_; first | exact True.intro | intro v_ h_ w_ r_ t_ | intro (ops_ : Array Oper) ri_ | intro (b_ : Bool) hb_ | intro v_ h_ | intro (v_ : Value) | intro (b_ : Nat) | (refine ⟨fun hc => ?_, fun hc => ?_⟩ <;> try (exfalso; omega)) | refine ⟨?_, ?_⟩ | intro _ | skip)
  | (refine Is_DQ ?_; first | (apply DQ_k rfl rfl rfl; intro mm) | (apply DQ_x rfl rfl rfl; intro mm)))
    all_goals
      refine ret_ rfl (by repeat (first | exact ResAll.nil | (apply ResAll.cons; first | exact .tmp rfl | exact .cell rfl rfl | exact .one rfl))) fun w' h' => ?_
      refine .mk ?_ h'
      simp [fS, fB, lst, lstA, retV]
  · refine enter (N := 24) (args := [I (3 : Nat), v]) Try.func28 rfl rfl rfl (St.refl w) ?_
    repeat' (first
  | refine G_nilC ?_
  | refine G_nilN ?_
  | refine G_nilH ?_
  | (refine G_nil ?_; try clear ri_; try clear ops_)
  | (refine V_op ?_; first | exact True.intro | intro v_ h_ w_ r_ t_ | intro (ops_ : Array Oper) ri_ | intro (b_ : Bool) hb_ | intro v_ h_ | intro (v_ : Value) | intro (b_ : Nat) | (refine ⟨fun hc => ?_, fun hc => ?_⟩ <;> try (exfalso; omega)) | refine ⟨?_, ?_⟩ | intro _ | skip)
  | (refine Is_DQ ?_; first | (apply DQ_k rfl rfl rfl; intro mm) | (apply DQ_x rfl rfl rfl; intro mm)))
    all_goals
      refine ret_ rfl (by repeat (first | exact ResAll.nil | (apply ResAll.cons; first | exact .tmp rfl | exact .cell rfl rfl | exact .one rfl))) fun w' h' => ?_
      refine .mk ?_ h'
      simp [fS, fB, lst, lstA, retV]
section
variable {w0 : World} {O : List Nat} {m : List As} {v u v' u' : Value}
instance {a b a' b' : List Int} [h1 : RdR w0 O m v a] [h2 : RdR w0 O m u b] [h3 : RdR w0 O m v' a'] [h4 : RdR w0 O m u' b'] : CallV Try.prog w0 O m 14 [.agg #[v, u], .agg #[v', u']] True (.bool (decide (a = a' ∧ b = b'))) :=
  ⟨fun _ w hw => @law_samePair w v u v' u' a b a' b' (RdOld.of (h1.rd w hw)) (RdOld.of (h2.rd w hw)) (RdOld.of (h3.rd w hw)) (RdOld.of (h4.rd w hw))⟩
instance {a a' : List Int} {b b' : List (BitVec 8)} {e e' : Int} [h1 : RdR w0 O m v a] [h2 : RdR w0 O m u b] [h3 : RdR w0 O m v' a'] [h4 : RdR w0 O m u' b'] : CallV Try.prog w0 O m 25 [.agg #[v, u, .int .i64 e], .agg #[v', u', .int .i64 e']] True (.bool (decide (e = e' ∧ a = a' ∧ b = b'))) :=
  ⟨fun _ w hw => @ref_Same4 w v u v' u' a a' b b' e e' (RdOld.of (h1.rd w hw)) (RdOld.of (h2.rd w hw)) (RdOld.of (h3.rd w hw)) (RdOld.of (h4.rd w hw))⟩
instance {l : List Int} [h : RdR w0 O m v l] {z : Int} {k : Nat} {sd : Prop} [hz : NatR z k sd] : CallV Try.prog w0 O m 28 [I z, v] ((sd ∧ k < 4) ∧ okI l ∧ l.length ≤ 4096) (I (fS k l)) := ⟨fun hs w hw => by
  rw [hz.eq hs.1.1]
  exact @law_size w k v l (RdOld.of (h.rd w hw)) hs.1.2 hs.2.1 hs.2.2⟩
end
end Go.Proofs.Ytaegfjolemehaaa
