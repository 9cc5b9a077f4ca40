/- Runs: Runs in the program and in the reference. -/
import Derived.Test.YtaegfjolemehaaaRnb
set_option linter.unusedVariables false
set_option linter.unusedSimpArgs false
set_option maxRecDepth 100000
set_option maxHeartbeats 4000000
namespace Go.Proofs.Ytaegfjolemehaaa
open Go.RowKit
attribute [local irreducible] G GC At wpL DR XPost CPost Cut GA GAR GAX GAt NxA GH GHR NxH

theorem rns_pos_len (l : List Int) : (rns l).length ≤ l.length := by
  have key : ∀ (l : List Int) (a : List (Int × Nat)), (l.foldl rstep a).length ≤ a.length + l.length := by
    intro l
    induction l with
    | nil => intro a; simp
    | cons x r ih =>
      intro a
      rw [List.foldl_cons]
      refine Nat.le_trans (ih _) ?_
      have : (rstep a x).length ≤ a.length + 1 := by
        unfold rstep; split
        · simp
        · split <;> simp
      simp only [List.length_cons]; omega
  have := key l []
  simpa [rns, rrev] using this

theorem run_Runs (w : World) (v : Value) (l : List Int) [h : RdOld w [] v l] (hl : l.length ≤ 100000) : Calls Try.prog 32 #[v] w (Ret w [] (fun _ : Value × Value => True) (fun r => .tuple #[r.1, r.2]) (fun r => [row r.1 3 (rvs l), row r.2 3 (rls l)])) := by
  have hlen := h.rd.len_le
  have hrn := rns_pos_len l
  refine enterMF (N := 20) (args := [v]) Try.func32 rfl rfl rfl (St.refl w) ?_
  repeat' (first
  | refine G_nilC ?_
  | refine G_nilN ?_
  | refine G_nilH ?_
  | (refine G_nil ?_; try clear ri_; try clear ops_)
  | (refine V_op ?_; first | exact True.intro | intro v_ h_ w_ r_ t_ | intro (ops_ : Array Oper) ri_ | intro (b_ : Bool) hb_ | intro v_ h_ | intro (v_ : Value) | intro (b_ : Nat) | (refine ⟨fun hc => ?_, fun hc => ?_⟩ <;> try (exfalso; omega)) | refine ⟨?_, ?_⟩ | intro _ | skip)
  | (refine Is_DQ ?_; first | (apply DQ_k rfl rfl rfl; intro mm) | (apply DQ_x rfl rfl rfl; intro mm)))
  rename_i b2
  refine GC_rangeX (X := Value × Value) (τ := Nat) (first := []) (cap := [.pointer (some ⟨v_, 0, none⟩)]) (fun _ => True) (fun _ => 0) (fun x => .box b2 (.cells #[x.1] 22) :: .box b_ (.cells #[x.2] 22) :: [row x.1 3 (rvs l), row x.2 3 (rls l)]) (fun _ => none) rfl ?_ ?_ (fun _ _ _ _ _ _ _ h => by cases h)
  · intro fn tmps dd ll w1 rc hrc hs hst
    refine (it_each w [] v l v_ ll (fun _ _ => True) (fun _ => (0 : Nat)) (fun k x => .box b2 (.cells #[x.1] 22) :: .box b_ (.cells #[x.2] 22) :: row x.1 3 (((rns l).take k).map (·.1)) :: row x.2 3 (((rns l).take k).map fun p => (p.2 : Int)) :: [.box ll (rc .ready none), .box dd (.deferred (some []))]) (.slice none 0 0, .slice none 0 0) ?_ w1 ?_ trivial).mono ?_
    · intro w1 O1 hr1 k hk x u hT1 _ w2 hst2
      subst hrc
      simp only at hst2 ⊢
      refine yd_F (ps := [8, 9]) hst2 hs rfl rfl rfl ?_
      repeat' (first
  | refine G_nilC ?_
  | refine G_nilN ?_
  | refine G_nilH ?_
  | (refine G_nil ?_; try clear ri_; try clear ops_)
  | (refine V_op ?_; first | exact True.intro | intro v_ h_ w_ r_ t_ | intro (ops_ : Array Oper) ri_ | intro (b_ : Bool) hb_ | intro v_ h_ | intro (v_ : Value) | intro (b_ : Nat) | (refine ⟨fun hc => ?_, fun hc => ?_⟩ <;> try (exfalso; omega)) | refine ⟨?_, ?_⟩ | intro _ | skip)
  | (refine Is_DQ ?_; first | (apply DQ_k rfl rfl rfl; intro mm) | (apply DQ_x rfl rfl rfl; intro mm)))
      refine At_beginF ?_
      have hk1 : (((rns l).take k).map (·.1)).length ≤ 100000 := by simp; omega
      have hk2 : (((rns l).take k).map fun p => (p.2 : Int)).length ≤ 100000 := by simp; omega
      repeat' (first
  | refine G_nilC ?_
  | refine G_nilN ?_
  | refine G_nilH ?_
  | (refine G_nil ?_; try clear ri_; try clear ops_)
  | (refine V_op ?_; first | exact True.intro | intro v_ h_ w_ r_ t_ | intro (ops_ : Array Oper) ri_ | intro (b_ : Bool) hb_ | intro v_ h_ | intro (v_ : Value) | intro (b_ : Nat) | (refine ⟨fun hc => ?_, fun hc => ?_⟩ <;> try (exfalso; omega)) | refine ⟨?_, ?_⟩ | intro _ | skip)
  | (refine Is_DQ ?_; first | (apply DQ_k rfl rfl rfl; intro mm) | (apply DQ_x rfl rfl rfl; intro mm)))
      rename_i q1 _
      exact At_endF fun w' h' => RndX.mk true (q1, v_) ⟨rfl, trivial⟩ h'
    · simp only [List.take_zero, List.map_nil]
      exact SubM.ent.st hst
    · rintro e w2 ⟨he, x, _, hst2, _⟩
      rw [List.take_of_length_le (by simp), show (rns l).map (·.1) = rvs l from rfl, show ((rns l).map fun p => (p.2 : Int)) = rls l from rfl] at hst2
      exact ⟨x, .ready, trivial, by simp, he, SubM.ent.st hst2, trivial⟩
  · intro dd x w1 hr1 hT1 _ _
    repeat' (first
  | refine G_nilC ?_
  | refine G_nilN ?_
  | refine G_nilH ?_
  | (refine G_nil ?_; try clear ri_; try clear ops_)
  | (refine V_op ?_; first | exact True.intro | intro v_ h_ w_ r_ t_ | intro (ops_ : Array Oper) ri_ | intro (b_ : Bool) hb_ | intro v_ h_ | intro (v_ : Value) | intro (b_ : Nat) | (refine ⟨fun hc => ?_, fun hc => ?_⟩ <;> try (exfalso; omega)) | refine ⟨?_, ?_⟩ | intro _ | skip)
  | (refine Is_DQ ?_; first | (apply DQ_k rfl rfl rfl; intro mm) | (apply DQ_x rfl rfl rfl; intro mm)))
    all_goals
      refine At_markF (.inl rfl) ?_
      refine retM_ rfl (by repeat (first | exact ResAll.nil | (apply ResAll.cons; first | exact .tmp rfl | exact .cell rfl rfl | exact .one rfl))) fun w' h' => ?_
      exact .mkB x trivial rfl h'
section
variable {w0 : World} {O : List Nat} {m : List As} {v : Value} {l : List Int}
instance [h : RdR w0 O m v l] : CallR Try.prog w0 O m 32 [v] (l.length ≤ 100000) (fun _ : Value × Value => True) (fun r => .tuple #[r.1, r.2]) (fun r => row r.1 3 (rvs l) :: row r.2 3 (rls l) :: m) :=
  .new (M := fun r : Value × Value => [row r.1 _ (rvs l), row r.2 _ (rls l)]) fun hs w hw => @run_Runs w v l (RdOld.of (h.rd w hw)) hs
end

theorem rls_in {l : List Int} {n : Int} (h : n ∈ rls l) : 1 ≤ n ∧ n ≤ l.length := by
  have key : ∀ (l : List Int) (a : List (Int × Nat)) (B : Nat), (∀ p ∈ a, 1 ≤ p.2 ∧ p.2 ≤ B) → ∀ p ∈ l.foldl rstep a, 1 ≤ p.2 ∧ p.2 ≤ B + l.length := by
    intro l
    induction l with
    | nil => intro a B h p hp; have := h p hp; simp only [List.length_nil]; omega
    | cons x r ih =>
      intro a B h p hp
      rw [List.foldl_cons] at hp
      have := ih (rstep a x) (B + 1) (fun q hq => by
        unfold rstep at hq
        split at hq
        · simp only [List.mem_singleton] at hq; subst hq; simp
        · rename_i v n t
          have h1 := h (v, n) (by simp)
          split at hq
          · rcases List.mem_cons.1 hq with rfl | hq
            · simp only at h1 ⊢; omega
            · have := h q (List.mem_cons_of_mem _ hq); omega
          · rcases List.mem_cons.1 hq with rfl | hq
            · simp
            · have := h q hq; omega) p hp
      simp only [List.length_cons]; omega
  simp only [rls, rns, List.mem_map, List.mem_reverse] at h
  obtain ⟨p, hp, rfl⟩ := h
  have := key l [] 0 (fun q hq => by simp at hq) p hp
  omega
theorem rvs_nil : rvs [] = [] := rfl
theorem rls_nil : rls [] = [] := rfl
theorem ref_Runs (w : World) (v : Value) (l : List Int) [h : RdOld w [] v l] (hl : l.length ≤ 100000) : Calls Try.prog 16 #[v] w (Ret w [] (fun _ : Value × Value => True) (fun r => .agg #[r.1, r.2]) (fun r => [row r.1 3 (rvs l), row r.2 3 (rls l)])) := by
  have hlen := h.rd.len_le
  refine enter (N := 53) (args := [v]) Try.func16 rfl rfl rfl (St.refl w) ?_
  repeat' (first
  | refine G_nilC ?_
  | refine G_nilN ?_
  | refine G_nilH ?_
  | (refine G_nil ?_; try clear ri_; try clear ops_)
  | (refine V_op ?_; first | exact True.intro | intro v_ h_ w_ r_ t_ | intro (ops_ : Array Oper) ri_ | intro (b_ : Bool) hb_ | intro v_ h_ | intro (v_ : Value) | intro (b_ : Nat) | (refine ⟨fun hc => ?_, fun hc => ?_⟩ <;> try (exfalso; omega)) | refine ⟨?_, ?_⟩ | intro _ | skip)
  | (refine Is_DQ ?_; first | (apply DQ_k rfl rfl rfl; intro mm) | (apply DQ_x rfl rfl rfl; intro mm)))
  rename_i b2
  refine GC_loopS (X := Nat × Value × Value) (fun y => y.1 ≤ l.length) (fun y s => (4, I y.1) :: s) (fun y q => .box b_ (.cells #[y.2.1, y.2.2] 24) :: row y.2.1 3 (rvs (l.take y.1)) :: row y.2.2 3 (rls (l.take y.1)) :: q) (fun y => l.length - y.1) (0, .slice none 0 0, .slice none 0 0) (Nat.zero_le _) (by repeat (first | exact trivial | refine And.intro rfl ?_)) ?_ (hm0 := by simp only [List.take_zero, rvs_nil, rls_nil]; exact rfl)
  rintro ⟨i, p, q⟩ hi
  simp only at hi ⊢
  have hL1 : (rls (l.take i)).length = (rvs (l.take i)).length := by simp
  have hL2 : (rvs (l.take i)).length ≤ l.length := by
    rw [rvs_length]
    exact Nat.le_trans (rns_pos_len _) (by simp; omega)
  by_cases hil : i < l.length
  · haveI : Fct (i < l.length) := ⟨hil⟩
    by_cases h0 : 0 < i
    · haveI : Fct (i - 1 < l.length) := ⟨by omega⟩
      have hL3 : 0 < (rvs (l.take i)).length := by
        rw [rvs_length]; exact rns_pos h0 hi
      have hin := rls_in (l := l.take i) (List.getElem_mem (show (rvs (l.take i)).length - 1 < (rls (l.take i)).length by omega))
      rw [List.length_take] at hin
      repeat' (first
  | refine G_nilC ?_
  | refine G_nilN ?_
  | refine G_nilH ?_
  | (refine G_nil ?_; try clear ri_; try clear ops_)
  | (refine V_op ?_; first | exact True.intro | intro v_ h_ w_ r_ t_ | intro (ops_ : Array Oper) ri_ | intro (b_ : Bool) hb_ | intro v_ h_ | intro (v_ : Value) | intro (b_ : Nat) | (refine ⟨fun hc => ?_, fun hc => ?_⟩ <;> try (exfalso; omega)) | refine ⟨?_, ?_⟩ | intro _ | skip)
  | (refine Is_DQ ?_; first | (apply DQ_k rfl rfl rfl; intro mm) | (apply DQ_x rfl rfl rfl; intro mm)))
      · obtain ⟨e1, e2⟩ := rns_same h0 hil (by assumption)
        rw [List.getD_eq_getElem?_getD, List.getElem?_eq_getElem (by rw [rls_length, ← rvs_length]; omega)] at e2
        simp only [Option.getD_some, ← rvs_length] at e2
        rw [← e2]
        refine At_roundS (i + 1, p, q) ?_ ?_ (by repeat (first | exact trivial | refine And.intro rfl ?_)) (by repeat (first | exact trivial | refine And.intro rfl ?_)) (hw := by simp only [e1]; exact rfl)
        all_goals (simp only; omega)
      · rename_i p2 _
        obtain ⟨e1, e2⟩ := rns_other hil (fun _ => by assumption)
        rw [← e2, ← e1]
        exact At_roundS (i + 1, p2, v_) (by simp only; omega) (by simp only; omega) (by repeat (first | exact trivial | refine And.intro rfl ?_)) (by repeat (first | exact trivial | refine And.intro rfl ?_))
    · obtain rfl : i = 0 := by omega
      repeat' (first
  | refine G_nilC ?_
  | refine G_nilN ?_
  | refine G_nilH ?_
  | (refine G_nil ?_; try clear ri_; try clear ops_)
  | (refine V_op ?_; first | exact True.intro | intro v_ h_ w_ r_ t_ | intro (ops_ : Array Oper) ri_ | intro (b_ : Bool) hb_ | intro v_ h_ | intro (v_ : Value) | intro (b_ : Nat) | (refine ⟨fun hc => ?_, fun hc => ?_⟩ <;> try (exfalso; omega)) | refine ⟨?_, ?_⟩ | intro _ | skip)
  | (refine Is_DQ ?_; first | (apply DQ_k rfl rfl rfl; intro mm) | (apply DQ_x rfl rfl rfl; intro mm)))
      rename_i p2 _
      obtain ⟨e1, e2⟩ := rns_other hil (fun h => absurd h h0)
      rw [← e2, ← e1]
      exact At_roundS (0 + 1, p2, v_) (by simp only; omega) (by simp only; omega) (by repeat (first | exact trivial | refine And.intro rfl ?_)) (by repeat (first | exact trivial | refine And.intro rfl ?_))
  · obtain rfl : i = l.length := by omega
    repeat' (first
  | refine G_nilC ?_
  | refine G_nilN ?_
  | refine G_nilH ?_
  | (refine G_nil ?_; try clear ri_; try clear ops_)
  | (refine V_op ?_; first | exact True.intro | intro v_ h_ w_ r_ t_ | intro (ops_ : Array Oper) ri_ | intro (b_ : Bool) hb_ | intro v_ h_ | intro (v_ : Value) | intro (b_ : Nat) | (refine ⟨fun hc => ?_, fun hc => ?_⟩ <;> try (exfalso; omega)) | refine ⟨?_, ?_⟩ | intro _ | skip)
  | (refine Is_DQ ?_; first | (apply DQ_k rfl rfl rfl; intro mm) | (apply DQ_x rfl rfl rfl; intro mm)))
    rw [List.take_length]
    refine ret_ rfl (by repeat (first | exact ResAll.nil | (apply ResAll.cons; first | exact .tmp rfl | exact .cell rfl rfl | exact .one rfl))) fun w' h' => ?_
    exact .mk (p, q) trivial rfl h'
instance {w0 : World} {O : List Nat} {m : List As} {v : Value} {l : List Int} [h : RdR w0 O m v l] : CallR Try.prog w0 O m 16 [v] (l.length ≤ 100000) (fun _ : Value × Value => True) (fun r => .agg #[r.1, r.2]) (fun r => row r.1 3 (rvs l) :: row r.2 3 (rls l) :: m) :=
  .new (M := fun r : Value × Value => [row r.1 _ (rvs l), row r.2 _ (rls l)]) fun hs w hw => @ref_Runs w v l (RdOld.of (h.rd w hw)) hs
end Go.Proofs.Ytaegfjolemehaaa
