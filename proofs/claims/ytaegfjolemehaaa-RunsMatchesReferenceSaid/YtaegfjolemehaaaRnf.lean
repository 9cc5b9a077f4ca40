/- Runs: the program's forms: closures in a table. -/
import Derived.Test.YtaegfjolemehaaaRne
set_option linter.unusedVariables false
set_option linter.unusedSimpArgs false
set_option maxRecDepth 100000
set_option maxHeartbeats 4000000
namespace Go.Proofs.Ytaegfjolemehaaa
open Go.RowKit
attribute [local irreducible] G GC At wpL DR XPost CPost Cut GA GAR GAX GAt NxA GH GHR NxH

theorem lists1 (w0 : World) (O : List Nat) (m : List As) (v : Value) (l : List Int) [One v] [h : RdOld w0 O v l] (w : World) (hw : St w0 O m w) :
    Calls Try.prog 43 #[v] w (RetD w0 O m (fun x : Sl (Sl Int) => x.l.map (·.l) = [l]) (fun x => x.v) (fun x w O => Tru w O x)) := by
  refine enterF (N := 5) (args := [v]) Try.func43 rfl rfl rfl hw ?_
  repeat' (first
  | refine G_nilC ?_
  | refine G_nilN ?_
  | refine G_nilH ?_
  | (refine G_nil ?_; try clear ri_; try clear ops_)
  | (refine V_op ?_; first | exact True.intro | intro v_ h_ w_ r_ t_ | intro (ops_ : Array Oper) ri_ | intro (b_ : Bool) hb_ | intro v_ h_ | intro (v_ : Value) | intro (b_ : Nat) | (refine ⟨fun hc => ?_, fun hc => ?_⟩ <;> try (exfalso; omega)) | refine ⟨?_, ?_⟩ | intro _ | skip)
  | (refine Is_DQ ?_; first | (apply DQ_k rfl rfl rfl; intro mm) | (apply DQ_x rfl rfl rfl; intro mm)))
  (first | refine G_frz v_ ?_ | refine GC_frz v_ ?_ | refine At_frz v_ ?_); intro w_ _ _ _
  refine ret_ rfl (by repeat (first | exact ResAll.nil | (apply ResAll.cons; first | exact .tmp rfl | exact .cell rfl rfl | exact .one rfl))) fun w' h' => ?_
  exact .mk (slOf v_ [slOf v l]) rfl rfl h' (by intro _; exact inferInstance)
theorem lists3 (w0 : World) (O : List Nat) (m : List As) (v : Value) (l : List Int) [One v] [h : RdOld w0 O v l] (hl : l.length ≤ 4096) (w : World) (hw : St w0 O m w) :
    Calls Try.prog 45 #[v] w (RetD w0 O m (fun x : Sl (Sl Int) => x.l.map (·.l) = [rvs l, rls l]) (fun x => x.v) (fun x w O => Tru w O x)) := by
  refine enterF (N := 13) (args := [v]) Try.func45 rfl rfl rfl hw ?_
  repeat' (first
  | refine G_nilC ?_
  | refine G_nilN ?_
  | refine G_nilH ?_
  | (refine G_nil ?_; try clear ri_; try clear ops_)
  | (refine V_op ?_; first | exact True.intro | intro v_ h_ w_ r_ t_ | intro (ops_ : Array Oper) ri_ | intro (b_ : Bool) hb_ | intro v_ h_ | intro (v_ : Value) | intro (b_ : Nat) | (refine ⟨fun hc => ?_, fun hc => ?_⟩ <;> try (exfalso; omega)) | refine ⟨?_, ?_⟩ | intro _ | skip)
  | (refine Is_DQ ?_; first | (apply DQ_k rfl rfl rfl; intro mm) | (apply DQ_x rfl rfl rfl; intro mm)))
  obtain ⟨a, b⟩ := v_
  (first | refine G_frz a ?_ | refine GC_frz a ?_ | refine At_frz a ?_); intro w_ _ _ _
  (first | refine G_frz b ?_ | refine GC_frz b ?_ | refine At_frz b ?_); intro w_ _ _ _
  repeat' (first
  | refine G_nilC ?_
  | refine G_nilN ?_
  | refine G_nilH ?_
  | (refine G_nil ?_; try clear ri_; try clear ops_)
  | (refine V_op ?_; first | exact True.intro | intro v_ h_ w_ r_ t_ | intro (ops_ : Array Oper) ri_ | intro (b_ : Bool) hb_ | intro v_ h_ | intro (v_ : Value) | intro (b_ : Nat) | (refine ⟨fun hc => ?_, fun hc => ?_⟩ <;> try (exfalso; omega)) | refine ⟨?_, ?_⟩ | intro _ | skip)
  | (refine Is_DQ ?_; first | (apply DQ_k rfl rfl rfl; intro mm) | (apply DQ_x rfl rfl rfl; intro mm)))
  (first | refine G_frz v_ ?_ | refine GC_frz v_ ?_ | refine At_frz v_ ?_); intro w_ _ _ _
  refine ret_ rfl (by repeat (first | exact ResAll.nil | (apply ResAll.cons; first | exact .tmp rfl | exact .cell rfl rfl | exact .one rfl))) fun w' h' => ?_
  exact .mk (slOf v_ [slOf a (rvs l), slOf b (rls l)]) rfl rfl h' (by intro _; exact inferInstance)
instance {w0 : World} {O : List Nat} {m : List As} {v : Value} {l : List Int} [One v] [h : RdOld w0 O v l] : CallD Try.prog w0 O m 43 [v] (l.length ≤ 4096) (fun x : Sl (Sl Int) => x.l.map (·.l) = lstA 0 l) (fun x => x.v) (fun x w O => Tru w O x) := ⟨fun _ w hw => lists1 w0 O m v l w hw⟩
instance {w0 : World} {O : List Nat} {m : List As} {v : Value} {l : List Int} [One v] [h : RdOld w0 O v l] : CallD Try.prog w0 O m 45 [v] (l.length ≤ 4096) (fun x : Sl (Sl Int) => x.l.map (·.l) = lstA 1 l) (fun x => x.v) (fun x w O => Tru w O x) := ⟨fun hs w hw => lists3 w0 O m v l hs w hw⟩

theorem run_mk (w : World) (f g : Value) [hf : Fct (f.oneCell' = true)] [hg : Fct (g.oneCell' = true)] : Calls Try.prog 47 #[.agg #[f, g]] w (Ret w [] (fun _ : Nat => True) (fun b => .agg #[.func (.func 48) #[] #[.pointer (some ⟨b, 0, none⟩)], .func (.func 49) #[] #[.pointer (some ⟨b, 0, none⟩)]]) (fun b => [.box b (.cells #[f, g] 65)])) := by
  haveI : ∀ {w0 : World} {O : List Nat} {m : List As}, OneW w0 O m f := ⟨fun _ _ => hf.out⟩
  haveI : ∀ {w0 : World} {O : List Nat} {m : List As}, OneW w0 O m g := ⟨fun _ _ => hg.out⟩
  refine enter (N := 6) (args := [.agg #[f, g]]) Try.func47 rfl rfl rfl (St.refl w) ?_
  repeat' (first
  | refine G_nilC ?_
  | refine G_nilN ?_
  | refine G_nilH ?_
  | (refine G_nil ?_; try clear ri_; try clear ops_)
  | (refine V_op ?_; first | exact True.intro | intro v_ h_ w_ r_ t_ | intro (ops_ : Array Oper) ri_ | intro (b_ : Bool) hb_ | intro v_ h_ | intro (v_ : Value) | intro (b_ : Nat) | (refine ⟨fun hc => ?_, fun hc => ?_⟩ <;> try (exfalso; omega)) | refine ⟨?_, ?_⟩ | intro _ | skip)
  | (refine Is_DQ ?_; first | (apply DQ_k rfl rfl rfl; intro mm) | (apply DQ_x rfl rfl rfl; intro mm)))
  rename_i b
  refine ret_ rfl (by repeat (first | exact ResAll.nil | (apply ResAll.cons; first | exact .tmp rfl | exact .cell rfl rfl | exact .one rfl))) fun w' h' => ?_
  exact .mk b trivial rfl h'
instance {w0 : World} {O : List Nat} {m : List As} {f g : Value} [hf : OneW w0 O m f] [hg : OneW w0 O m g] : CallR Try.prog w0 O m 47 [.agg #[f, g]] True (fun _ : Nat => True) (fun b => .agg #[.func (.func 48) #[] #[.pointer (some ⟨b, 0, none⟩)], .func (.func 49) #[] #[.pointer (some ⟨b, 0, none⟩)]]) (fun b => .box b (.cells #[f, g] 65) :: m) :=
  .new1 (M := fun b => .box b _) fun _ w hw => @run_mk w f g ⟨hf.one w hw⟩ ⟨hg.one w hw⟩

/-- the two functions of each form -/
def fmA : List Value := [.func (.func 43) #[] #[], .func (.func 44) #[] #[]]
def fmB : List Value := [.func (.func 45) #[] #[], .func (.func 46) #[] #[]]
theorem run_forms (w : World) : Calls Try.prog 34 #[] w (Ret w [] (fun _ : Nat × Nat => True)
    (fun b => .agg #[.func (.func 43) #[] #[], .func (.func 44) #[] #[], .func (.func 45) #[] #[], .func (.func 46) #[] #[],
      .func (.func 48) #[] #[.pointer (some ⟨b.1, 0, none⟩)], .func (.func 49) #[] #[.pointer (some ⟨b.1, 0, none⟩)], .func (.func 48) #[] #[.pointer (some ⟨b.2, 0, none⟩)], .func (.func 49) #[] #[.pointer (some ⟨b.2, 0, none⟩)]])
    (fun b => [.box b.1 (.cells #[.func (.func 43) #[] #[], .func (.func 44) #[] #[]] 65), .box b.2 (.cells #[.func (.func 45) #[] #[], .func (.func 46) #[] #[]] 65)])) := by
  refine enter (N := 15) (args := []) Try.func34 rfl rfl rfl (St.refl w) ?_
  repeat' (first
  | refine G_nilC ?_
  | refine G_nilN ?_
  | refine G_nilH ?_
  | (refine G_nil ?_; try clear ri_; try clear ops_)
  | (refine V_op ?_; first | exact True.intro | intro v_ h_ w_ r_ t_ | intro (ops_ : Array Oper) ri_ | intro (b_ : Bool) hb_ | intro v_ h_ | intro (v_ : Value) | intro (b_ : Nat) | (refine ⟨fun hc => ?_, fun hc => ?_⟩ <;> try (exfalso; omega)) | refine ⟨?_, ?_⟩ | intro _ | skip)
  | (refine Is_DQ ?_; first | (apply DQ_k rfl rfl rfl; intro mm) | (apply DQ_x rfl rfl rfl; intro mm)))
  rename_i b1 _
  refine ret_ rfl (by repeat (first | exact ResAll.nil | (apply ResAll.cons; first | exact .tmp rfl | exact .cell rfl rfl | exact .one rfl))) fun w' h' => ?_
  exact .mk (b1, v_) trivial rfl h'
instance {w0 : World} {O : List Nat} {m : List As} : CallR Try.prog w0 O m 34 [] True (fun _ : Nat × Nat => True)
    (fun b => .agg #[.func (.func 43) #[] #[], .func (.func 44) #[] #[], .func (.func 45) #[] #[], .func (.func 46) #[] #[],
      .func (.func 48) #[] #[.pointer (some ⟨b.1, 0, none⟩)], .func (.func 49) #[] #[.pointer (some ⟨b.1, 0, none⟩)], .func (.func 48) #[] #[.pointer (some ⟨b.2, 0, none⟩)], .func (.func 49) #[] #[.pointer (some ⟨b.2, 0, none⟩)]])
    (fun b => .box b.1 (.cells #[.func (.func 43) #[] #[], .func (.func 44) #[] #[]] 65) :: .box b.2 (.cells #[.func (.func 45) #[] #[], .func (.func 46) #[] #[]] 65) :: m) :=
  .new (M := fun b : Nat × Nat => [.box b.1 _, .box b.2 _]) fun _ w _ => run_forms w

/-! the lists of the forms over differences -/
theorem lists48A (w0 : World) (O : List Nat) (m : List As) (v : Value) (l : List Int) (b : Nat) [One v] [h : RdOld w0 O v l] [hb : Held b m (.cells #[.func (.func 43) #[] #[], .func (.func 44) #[] #[]] 65)] (hl : l.length ≤ 4096) (w : World) (hw : St w0 O m w) :
    Calls Try.prog 48 #[v, .pointer (some ⟨b, 0, none⟩)] w (RetD w0 O m (fun x : Sl (Sl Int) => x.l.map (·.l) = lstA 0 (difL l)) (fun x => x.v) (fun x w O => Tru w O x)) := by
  have hd : (difL l).length = l.length := by simp
  refine enterF (N := 9) (args := [v, .pointer (some ⟨b, 0, none⟩)]) Try.func48 rfl rfl rfl hw ?_
  repeat' (first
  | refine G_nilC ?_
  | refine G_nilN ?_
  | refine G_nilH ?_
  | (refine G_nil ?_; try clear ri_; try clear ops_)
  | (refine V_op ?_; first | exact True.intro | intro v_ h_ w_ r_ t_ | intro (ops_ : Array Oper) ri_ | intro (b_ : Bool) hb_ | intro v_ h_ | intro (v_ : Value) | intro (b_ : Nat) | (refine ⟨fun hc => ?_, fun hc => ?_⟩ <;> try (exfalso; omega)) | refine ⟨?_, ?_⟩ | intro _ | skip)
  | (refine Is_DQ ?_; first | (apply DQ_k rfl rfl rfl; intro mm) | (apply DQ_x rfl rfl rfl; intro mm)))
  (first | refine G_frz v_ ?_ | refine GC_frz v_ ?_ | refine At_frz v_ ?_); intro w_ _ _ _
  repeat' (first
  | refine G_nilC ?_
  | refine G_nilN ?_
  | refine G_nilH ?_
  | (refine G_nil ?_; try clear ri_; try clear ops_)
  | (refine V_op ?_; first | exact True.intro | intro v_ h_ w_ r_ t_ | intro (ops_ : Array Oper) ri_ | intro (b_ : Bool) hb_ | intro v_ h_ | intro (v_ : Value) | intro (b_ : Nat) | (refine ⟨fun hc => ?_, fun hc => ?_⟩ <;> try (exfalso; omega)) | refine ⟨?_, ?_⟩ | intro _ | skip)
  | (refine Is_DQ ?_; first | (apply DQ_k rfl rfl rfl; intro mm) | (apply DQ_x rfl rfl rfl; intro mm)))
  refine ret_ rfl (by repeat (first | exact ResAll.nil | (apply ResAll.cons; first | exact .tmp rfl | exact .cell rfl rfl | exact .one rfl))) fun w' h' => ?_
  exact .mk v_ h_ rfl h' (by intro _; exact inferInstance)
theorem lists48B (w0 : World) (O : List Nat) (m : List As) (v : Value) (l : List Int) (b : Nat) [One v] [h : RdOld w0 O v l] [hb : Held b m (.cells #[.func (.func 45) #[] #[], .func (.func 46) #[] #[]] 65)] (hl : l.length ≤ 4096) (w : World) (hw : St w0 O m w) :
    Calls Try.prog 48 #[v, .pointer (some ⟨b, 0, none⟩)] w (RetD w0 O m (fun x : Sl (Sl Int) => x.l.map (·.l) = lstA 1 (difL l)) (fun x => x.v) (fun x w O => Tru w O x)) := by
  have hd : (difL l).length = l.length := by simp
  refine enterF (N := 9) (args := [v, .pointer (some ⟨b, 0, none⟩)]) Try.func48 rfl rfl rfl hw ?_
  repeat' (first
  | refine G_nilC ?_
  | refine G_nilN ?_
  | refine G_nilH ?_
  | (refine G_nil ?_; try clear ri_; try clear ops_)
  | (refine V_op ?_; first | exact True.intro | intro v_ h_ w_ r_ t_ | intro (ops_ : Array Oper) ri_ | intro (b_ : Bool) hb_ | intro v_ h_ | intro (v_ : Value) | intro (b_ : Nat) | (refine ⟨fun hc => ?_, fun hc => ?_⟩ <;> try (exfalso; omega)) | refine ⟨?_, ?_⟩ | intro _ | skip)
  | (refine Is_DQ ?_; first | (apply DQ_k rfl rfl rfl; intro mm) | (apply DQ_x rfl rfl rfl; intro mm)))
  (first | refine G_frz v_ ?_ | refine GC_frz v_ ?_ | refine At_frz v_ ?_); intro w_ _ _ _
  repeat' (first
  | refine G_nilC ?_
  | refine G_nilN ?_
  | refine G_nilH ?_
  | (refine G_nil ?_; try clear ri_; try clear ops_)
  | (refine V_op ?_; first | exact True.intro | intro v_ h_ w_ r_ t_ | intro (ops_ : Array Oper) ri_ | intro (b_ : Bool) hb_ | intro v_ h_ | intro (v_ : Value) | intro (b_ : Nat) | (refine ⟨fun hc => ?_, fun hc => ?_⟩ <;> try (exfalso; omega)) | refine ⟨?_, ?_⟩ | intro _ | skip)
  | (refine Is_DQ ?_; first | (apply DQ_k rfl rfl rfl; intro mm) | (apply DQ_x rfl rfl rfl; intro mm)))
  refine ret_ rfl (by repeat (first | exact ResAll.nil | (apply ResAll.cons; first | exact .tmp rfl | exact .cell rfl rfl | exact .one rfl))) fun w' h' => ?_
  exact .mk v_ h_ rfl h' (by intro _; exact inferInstance)
section
variable {w0 : World} {O : List Nat} {m : List As} {v : Value} {l : List Int} {b : Nat}
instance [One v] [h : RdOld w0 O v l] [hb : Held b m (.cells #[.func (.func 43) #[] #[], .func (.func 44) #[] #[]] 65)] :
  CallD Try.prog w0 O m 48 [v, .pointer (some ⟨b, 0, none⟩)] (l.length ≤ 4096) (fun x : Sl (Sl Int) => x.l.map (·.l) = lstA 0 (difL l)) (fun x => x.v) (fun x w O => Tru w O x) := ⟨fun hs w hw => lists48A w0 O m v l b hs w hw⟩
instance [One v] [h : RdOld w0 O v l] [hb : Held b m (.cells #[.func (.func 45) #[] #[], .func (.func 46) #[] #[]] 65)] :
  CallD Try.prog w0 O m 48 [v, .pointer (some ⟨b, 0, none⟩)] (l.length ≤ 4096) (fun x : Sl (Sl Int) => x.l.map (·.l) = lstA 1 (difL l)) (fun x => x.v) (fun x w O => Tru w O x) := ⟨fun hs w hw => lists48B w0 O m v l b hs w hw⟩
end

/-! lists read again -/
def lresA (k : Nat) (L : List (List Int)) : Option (List Int) := if k = 0 then some (L.getD 0 []) else match expE (L.getD 0 []) (L.getD 1 []) with
  | .ok l => some l
  | .error _ => none
def lres (k : Nat) (L : List (List Int)) : Option (List Int) := if 2 ≤ k then (lresA (k - 2) L).map sumL else lresA k L
def lrs (i : Sl Int × Bool) (r : Option (List Int)) : Prop := if i.2 = true then r = some i.1.l else r = none
theorem expGo_spec : ∀ (r : List (Int × Int)) (out : List Int), out.length ≤ 4096 → (∀ e, expGo out r = .error e → e = 2) ∧ ∀ x, expGo out r = .ok x → x.length ≤ 4096
  | [], out, h => ⟨fun e he => by simp [expGo] at he, fun x hx => by simp only [expGo, Except.ok.injEq] at hx; subst hx; exact h⟩
  | (v, n) :: r, out, h => by
    rw [expGo]
    split
    · exact ⟨fun e he => by simpa using he.symm, fun x hx => by simp at hx⟩
    · exact expGo_spec r _ (by simp only [List.length_append, List.length_replicate]; omega)
theorem exp_err {vs ls : List Int} {e : Int} (h : expE vs ls = .error e) : e = 1 ∨ e = 2 := by
  unfold expE at h
  split at h
  · simp only [Except.error.injEq] at h; exact .inl h.symm
  · split at h
    · simp only [Except.error.injEq] at h; exact .inl h.symm
    · exact .inr ((expGo_spec _ _ (by simp)).1 e h)
theorem exp_len {vs ls x : List Int} (h : expE vs ls = .ok x) : x.length ≤ 4096 := by
  unfold expE at h
  split at h
  · cases h
  · split at h
    · cases h
    · exact (expGo_spec _ _ (by simp)).2 x h
theorem list2 (w0 : World) (O : List Nat) (m : List As) (u : Value) (L : List (Sl Int)) [h : RdOld w0 O u L] [ht : TruL w0 O L] (hL : 0 < L.length) (w : World) (hw : St w0 O m w) :
    Calls Try.prog 44 #[u] w (RetD w0 O m (fun i : Sl Int × Bool => lrs i (lresA 0 (L.map (·.l))) ∧ i.1.l.length ≤ ((L.map (·.l)).getD 0 []).length) (fun i => .tuple #[i.1.v, .bool i.2]) (fun i w O => Tru w O i.1)) := by
  refine enterF (N := 7) (args := [u]) Try.func44 rfl rfl rfl hw ?_
  repeat' (first
  | refine G_nilC ?_
  | refine G_nilN ?_
  | refine G_nilH ?_
  | (refine G_nil ?_; try clear ri_; try clear ops_)
  | (refine V_op ?_; first | exact True.intro | intro v_ h_ w_ r_ t_ | intro (ops_ : Array Oper) ri_ | intro (b_ : Bool) hb_ | intro v_ h_ | intro (v_ : Value) | intro (b_ : Nat) | (refine ⟨fun hc => ?_, fun hc => ?_⟩ <;> try (exfalso; omega)) | refine ⟨?_, ?_⟩ | intro _ | skip)
  | (refine Is_DQ ?_; first | (apply DQ_k rfl rfl rfl; intro mm) | (apply DQ_x rfl rfl rfl; intro mm)))
  refine ret_ rfl (by repeat (first | exact ResAll.nil | (apply ResAll.cons; first | exact .tmp rfl | exact .cell rfl rfl | exact .one rfl))) fun w' h' => ?_
  have e : (L.map (·.l)).getD 0 [] = L[0].l := by rw [List.getD_eq_getElem?_getD, List.getElem?_map, List.getElem?_eq_getElem hL]; rfl
  exact .mk (L[0], true) ⟨by rw [lrs, if_pos rfl, lresA, if_pos rfl, e], by rw [e]; exact Nat.le_refl _⟩ rfl h' (by intro _; exact inferInstance)
theorem list4 (w0 : World) (O : List Nat) (m : List As) (u : Value) (L : List (Sl Int)) [h : RdOld w0 O u L] [ht : TruL w0 O L] (hL : 1 < L.length) (hl : ∀ x ∈ L, x.l.length ≤ 4096) (w : World) (hw : St w0 O m w) :
    Calls Try.prog 46 #[u] w (RetD w0 O m (fun i : Sl Int × Bool => lrs i (lresA 1 (L.map (·.l))) ∧ i.1.l.length ≤ 4096) (fun i => .tuple #[i.1.v, .bool i.2]) (fun i w O => Tru w O i.1)) := by
  haveI : Fct (0 < L.length) := ⟨by omega⟩
  haveI : Fct (1 < L.length) := ⟨hL⟩
  have e0 : (L.map (·.l)).getD 0 [] = L[0].l := by rw [List.getD_eq_getElem?_getD, List.getElem?_map, List.getElem?_eq_getElem (by omega)]; rfl
  have e1 : (L.map (·.l)).getD 1 [] = L[1].l := by rw [List.getD_eq_getElem?_getD, List.getElem?_map, List.getElem?_eq_getElem hL]; rfl
  have k0 := hl L[0] (List.getElem_mem _)
  have k1 := hl L[1] (List.getElem_mem _)
  cases hr : expE L[0].l L[1].l with
  | error e =>
    haveI : Eqn (expE L[0].l L[1].l) (.error e) := ⟨hr⟩
    refine enterF (N := 19) (args := [u]) Try.func46 rfl rfl rfl hw ?_
    repeat' (first
  | refine G_nilC ?_
  | refine G_nilN ?_
  | refine G_nilH ?_
  | (refine G_nil ?_; try clear ri_; try clear ops_)
  | (refine V_op ?_; first | exact True.intro | intro v_ h_ w_ r_ t_ | intro (ops_ : Array Oper) ri_ | intro (b_ : Bool) hb_ | intro v_ h_ | intro (v_ : Value) | intro (b_ : Nat) | (refine ⟨fun hc => ?_, fun hc => ?_⟩ <;> try (exfalso; omega)) | refine ⟨?_, ?_⟩ | intro _ | skip)
  | (refine Is_DQ ?_; first | (apply DQ_k rfl rfl rfl; intro mm) | (apply DQ_x rfl rfl rfl; intro mm)))
    have he := exp_err hr
    rw [decide_eq_false (show ¬ e = 0 by omega)]
    refine ret_ rfl (by repeat (first | exact ResAll.nil | (apply ResAll.cons; first | exact .tmp rfl | exact .cell rfl rfl | exact .one rfl))) fun w' h' => ?_
    exact .mk (slNil, false) ⟨by rw [lrs, if_neg (by simp), lresA, if_neg (by simp), e0, e1, hr], by simp [slNil]⟩ rfl h' (by intro _; exact inferInstance)
  | ok x =>
    haveI : Eqn (expE L[0].l L[1].l) (.ok x) := ⟨hr⟩
    refine enterF (N := 19) (args := [u]) Try.func46 rfl rfl rfl hw ?_
    repeat' (first
  | refine G_nilC ?_
  | refine G_nilN ?_
  | refine G_nilH ?_
  | (refine G_nil ?_; try clear ri_; try clear ops_)
  | (refine V_op ?_; first | exact True.intro | intro v_ h_ w_ r_ t_ | intro (ops_ : Array Oper) ri_ | intro (b_ : Bool) hb_ | intro v_ h_ | intro (v_ : Value) | intro (b_ : Nat) | (refine ⟨fun hc => ?_, fun hc => ?_⟩ <;> try (exfalso; omega)) | refine ⟨?_, ?_⟩ | intro _ | skip)
  | (refine Is_DQ ?_; first | (apply DQ_k rfl rfl rfl; intro mm) | (apply DQ_x rfl rfl rfl; intro mm)))
    have hx := exp_len hr
    (first | refine G_frz v_ ?_ | refine GC_frz v_ ?_ | refine At_frz v_ ?_); intro w_ _ _ _
    refine ret_ rfl (by repeat (first | exact ResAll.nil | (apply ResAll.cons; first | exact .tmp rfl | exact .cell rfl rfl | exact .one rfl))) fun w' h' => ?_
    exact .mk (slOf v_ x, true) ⟨by rw [lrs, if_pos rfl, lresA, if_neg (by simp), e0, e1, hr]; rfl, hx⟩ rfl h' (by intro _; exact inferInstance)
section
variable {w0 : World} {O : List Nat} {m : List As} {u : Value} {L : List (Sl Int)}
instance [h : RdOld w0 O u L] [ht : TruL w0 O L] : CallD Try.prog w0 O m 44 [u] (1 ≤ L.length ∧ ∀ x ∈ L, x.l.length ≤ 4096) (fun i : Sl Int × Bool => lrs i (lresA 0 (L.map (·.l))) ∧ i.1.l.length ≤ 4096) (fun i => .tuple #[i.1.v, .bool i.2]) (fun i w O => Tru w O i.1) := ⟨fun hs w hw => (list2 w0 O m u L hs.1 w hw).mono (by
  rintro e w' ⟨i, ⟨h1, h2⟩, h3, h4, h5⟩
  refine ⟨i, ⟨h1, Nat.le_trans h2 ?_⟩, h3, h4, h5⟩
  obtain ⟨x, r, rfl⟩ := List.exists_cons_of_length_pos hs.1
  exact hs.2 x (by simp))⟩
instance [h : RdOld w0 O u L] [ht : TruL w0 O L] : CallD Try.prog w0 O m 46 [u] (2 ≤ L.length ∧ ∀ x ∈ L, x.l.length ≤ 4096) (fun i : Sl Int × Bool => lrs i (lresA 1 (L.map (·.l))) ∧ i.1.l.length ≤ 4096) (fun i => .tuple #[i.1.v, .bool i.2]) (fun i w O => Tru w O i.1) := ⟨fun hs w hw => list4 w0 O m u L hs.1 hs.2 w hw⟩
end
theorem lrs_sum {i : Sl Int × Bool} {v : Value} [One v] {r : Option (List Int)} (h : lrs i r) : lrs (slOf v (sumL i.1.l), i.2) (r.map sumL) := by
  unfold lrs at h ⊢
  simp only at h ⊢
  split
  · rename_i e; rw [if_pos e] at h; rw [h]; rfl
  · rename_i e; rw [if_neg e] at h; rw [h]; rfl
theorem list49A (w0 : World) (O : List Nat) (m : List As) (u : Value) (L : List (Sl Int)) (b : Nat) [h : RdOld w0 O u L] [ht : TruL w0 O L] [hb : Held b m (.cells #[.func (.func 43) #[] #[], .func (.func 44) #[] #[]] 65)] (hL : 1 ≤ L.length) (hl : ∀ x ∈ L, x.l.length ≤ 4096) (w : World) (hw : St w0 O m w) :
    Calls Try.prog 49 #[u, .pointer (some ⟨b, 0, none⟩)] w (RetD w0 O m (fun i : Sl Int × Bool => lrs i ((lresA 0 (L.map (·.l))).map sumL) ∧ i.1.l.length ≤ 4096) (fun i => .tuple #[i.1.v, .bool i.2]) (fun i w O => Tru w O i.1)) := by
  refine enterF (N := 17) (args := [u, .pointer (some ⟨b, 0, none⟩)]) Try.func49 rfl rfl rfl hw ?_
  repeat' (first
  | refine G_nilC ?_
  | refine G_nilN ?_
  | refine G_nilH ?_
  | (refine G_nil ?_; try clear ri_; try clear ops_)
  | (refine V_op ?_; first | exact True.intro | intro v_ h_ w_ r_ t_ | intro (ops_ : Array Oper) ri_ | intro (b_ : Bool) hb_ | intro v_ h_ | intro (v_ : Value) | intro (b_ : Nat) | (refine ⟨fun hc => ?_, fun hc => ?_⟩ <;> try (exfalso; omega)) | refine ⟨?_, ?_⟩ | intro _ | skip)
  | (refine Is_DQ ?_; first | (apply DQ_k rfl rfl rfl; intro mm) | (apply DQ_x rfl rfl rfl; intro mm)))
  rename_i i hi
  (first | refine G_frz v_ ?_ | refine GC_frz v_ ?_ | refine At_frz v_ ?_); intro w_ _ _ _
  refine ret_ rfl (by repeat (first | exact ResAll.nil | (apply ResAll.cons; first | exact .tmp rfl | exact .cell rfl rfl | exact .one rfl))) fun w' h' => ?_
  exact .mk (slOf v_ (sumL i.1.l), i.2) ⟨lrs_sum hi.1, by simpa [slOf] using hi.2⟩ rfl h' (by intro _; exact inferInstance)
instance {w0 : World} {O : List Nat} {m : List As} {u : Value} {L : List (Sl Int)} {b : Nat} [h : RdOld w0 O u L] [ht : TruL w0 O L] [hb : Held b m (.cells #[.func (.func 43) #[] #[], .func (.func 44) #[] #[]] 65)] :
  CallD Try.prog w0 O m 49 [u, .pointer (some ⟨b, 0, none⟩)] (1 ≤ L.length ∧ ∀ x ∈ L, x.l.length ≤ 4096) (fun i : Sl Int × Bool => lrs i ((lresA 0 (L.map (·.l))).map sumL) ∧ i.1.l.length ≤ 4096) (fun i => .tuple #[i.1.v, .bool i.2]) (fun i w O => Tru w O i.1) := ⟨fun hs w hw => list49A w0 O m u L b hs.1 hs.2 w hw⟩
theorem list49B (w0 : World) (O : List Nat) (m : List As) (u : Value) (L : List (Sl Int)) (b : Nat) [h : RdOld w0 O u L] [ht : TruL w0 O L] [hb : Held b m (.cells #[.func (.func 45) #[] #[], .func (.func 46) #[] #[]] 65)] (hL : 2 ≤ L.length) (hl : ∀ x ∈ L, x.l.length ≤ 4096) (w : World) (hw : St w0 O m w) :
    Calls Try.prog 49 #[u, .pointer (some ⟨b, 0, none⟩)] w (RetD w0 O m (fun i : Sl Int × Bool => lrs i ((lresA 1 (L.map (·.l))).map sumL) ∧ i.1.l.length ≤ 4096) (fun i => .tuple #[i.1.v, .bool i.2]) (fun i w O => Tru w O i.1)) := by
  refine enterF (N := 17) (args := [u, .pointer (some ⟨b, 0, none⟩)]) Try.func49 rfl rfl rfl hw ?_
  repeat' (first
  | refine G_nilC ?_
  | refine G_nilN ?_
  | refine G_nilH ?_
  | (refine G_nil ?_; try clear ri_; try clear ops_)
  | (refine V_op ?_; first | exact True.intro | intro v_ h_ w_ r_ t_ | intro (ops_ : Array Oper) ri_ | intro (b_ : Bool) hb_ | intro v_ h_ | intro (v_ : Value) | intro (b_ : Nat) | (refine ⟨fun hc => ?_, fun hc => ?_⟩ <;> try (exfalso; omega)) | refine ⟨?_, ?_⟩ | intro _ | skip)
  | (refine Is_DQ ?_; first | (apply DQ_k rfl rfl rfl; intro mm) | (apply DQ_x rfl rfl rfl; intro mm)))
  rename_i i hi
  (first | refine G_frz v_ ?_ | refine GC_frz v_ ?_ | refine At_frz v_ ?_); intro w_ _ _ _
  refine ret_ rfl (by repeat (first | exact ResAll.nil | (apply ResAll.cons; first | exact .tmp rfl | exact .cell rfl rfl | exact .one rfl))) fun w' h' => ?_
  exact .mk (slOf v_ (sumL i.1.l), i.2) ⟨lrs_sum hi.1, by simpa [slOf] using hi.2⟩ rfl h' (by intro _; exact inferInstance)
instance {w0 : World} {O : List Nat} {m : List As} {u : Value} {L : List (Sl Int)} {b : Nat} [h : RdOld w0 O u L] [ht : TruL w0 O L] [hb : Held b m (.cells #[.func (.func 45) #[] #[], .func (.func 46) #[] #[]] 65)] :
  CallD Try.prog w0 O m 49 [u, .pointer (some ⟨b, 0, none⟩)] (2 ≤ L.length ∧ ∀ x ∈ L, x.l.length ≤ 4096) (fun i : Sl Int × Bool => lrs i ((lresA 1 (L.map (·.l))).map sumL) ∧ i.1.l.length ≤ 4096) (fun i => .tuple #[i.1.v, .bool i.2]) (fun i w O => Tru w O i.1) := ⟨fun hs w hw => list49B w0 O m u L b hs.1 hs.2 w hw⟩
end Go.Proofs.Ytaegfjolemehaaa
