/- Dictionary: validity, equality, common beginnings, copies. -/
import Derived.Test.YtnncjfphdcfimaaBpl
import Derived.Test.YtnncjfphdcfimaaSrt
set_option linter.unusedVariables false
set_option linter.unusedSimpArgs false
set_option maxRecDepth 100000
set_option maxHeartbeats 4000000
namespace Go.Proofs.Ytnncjfphdcfimaa
open Go.RowKit
attribute [local irreducible] G GC At wpL DR XPost CPost Cut GA GAR GAX GAt NxA GH GHR NxH

/-- the first k strings are short, each greater than the one ahead of it -/
def OkU (d : List ByteArray) (k : Nat) : Prop := ∀ i (h : i < d.length), i < k → (bL d[i]).length ≤ 255 ∧ (∀ h0 : 0 < i, ltS (bL (d[i - 1]'(by omega))) (bL d[i]))
theorem okU_zero (d : List ByteArray) : OkU d 0 := fun i h h0 => by omega
theorem okU_succ {d : List ByteArray} {k : Nat} (h : OkU d k) (hk : k < d.length) (h1 : (bL d[k]).length ≤ 255) (h2 : ∀ h0 : 0 < k, ltS (bL (d[k - 1]'(by omega))) (bL d[k])) : OkU d (k + 1) := fun i hi hik => by
  by_cases e : i = k
  · subst e; exact ⟨h1, h2⟩
  · exact h i hi (by omega)
def VaD (d : List ByteArray) : Prop := OkU d d.length ∧ d.length ≤ 4096
noncomputable instance vaDec (d : List ByteArray) : Decidable (VaD d) := Classical.propDecidable _
theorem run_Valid (w : World) (v : Value) (d : List ByteArray) [h : RdOld w [] v d] : Calls Try.prog 21 #[v] w (Is w (.bool (decide (VaD d)))) := by
  have hl := h.rd.len_le
  refine enter (N := 32) (args := [v]) Try.func21 rfl rfl rfl (St.refl w) ?_
  repeat' (first
  | refine G_nilC ?_
  | refine G_nilN ?_
  | refine G_nilH ?_
  | (refine G_nil ?_; try clear ri_; try clear ops_)
  | (refine V_op ?_; first | exact True.intro | (intro v_ h_ w_ r_ t_; try (obtain ⟨ta_, tb_⟩ := (t_ : _ ∧ _)); try (obtain ⟨tb_, tc_⟩ := (tb_ : _ ∧ _)); try (obtain ⟨tc_, td_⟩ := (tc_ : _ ∧ _)); try (obtain ⟨td_, te_⟩ := (td_ : _ ∧ _))) | intro (ops_ : Array Oper) ri_ | intro (b_ : Bool) hb_ | (intro v_ h_; try (have o_ := FrzK.one h_)) | intro (v_ : Value) | intro (b_ : Nat) | (refine ⟨fun hc => ?_, fun hc => ?_⟩ <;> try (exfalso; omega)) | refine ⟨?_, ?_⟩ | intro _ | skip)
  | (refine Is_DQ ?_; first | (apply DQ_m rfl rfl rfl rfl; focus (intro wq_ Oq_ rq_ mm; (repeat (first | (refine G_nil ?_; exact X_done rfl (List.Sublist.refl _)) | refine V_op ?_)); done)) | (apply DQ_k rfl rfl rfl rfl; intro wq_ Oq_ rq_ mm) | (apply DQ_y rfl rfl rfl rfl; intro wq_ Oq_ rq_ mm)))
  refine GC_loopS (X := Nat) (fun k => k ≤ d.length ∧ OkU d k) (fun k s => (7, I k) :: s) (fun _ q => q) (fun k => d.length - k) 0 ⟨Nat.zero_le _, okU_zero d⟩ (by repeat (first | exact trivial | refine And.intro rfl ?_)) ?_
  rintro k ⟨hk, hok⟩
  repeat' (first
  | refine G_nilC ?_
  | refine G_nilN ?_
  | refine G_nilH ?_
  | (refine G_nil ?_; try clear ri_; try clear ops_)
  | (refine V_op ?_; first | exact True.intro | (intro v_ h_ w_ r_ t_; try (obtain ⟨ta_, tb_⟩ := (t_ : _ ∧ _)); try (obtain ⟨tb_, tc_⟩ := (tb_ : _ ∧ _)); try (obtain ⟨tc_, td_⟩ := (tc_ : _ ∧ _)); try (obtain ⟨td_, te_⟩ := (td_ : _ ∧ _))) | intro (ops_ : Array Oper) ri_ | intro (b_ : Bool) hb_ | (intro v_ h_; try (have o_ := FrzK.one h_)) | intro (v_ : Value) | intro (b_ : Nat) | (refine ⟨fun hc => ?_, fun hc => ?_⟩ <;> try (exfalso; omega)) | refine ⟨?_, ?_⟩ | intro _ | skip)
  | (refine Is_DQ ?_; first | (apply DQ_m rfl rfl rfl rfl; focus (intro wq_ Oq_ rq_ mm; (repeat (first | (refine G_nil ?_; exact X_done rfl (List.Sublist.refl _)) | refine V_op ?_)); done)) | (apply DQ_k rfl rfl rfl rfl; intro wq_ Oq_ rq_ mm) | (apply DQ_y rfl rfl rfl rfl; intro wq_ Oq_ rq_ mm)))
  · refine ret_ rfl (by repeat (first | exact ResAll.nil | (apply ResAll.cons; first | exact .tmp rfl | exact .cell rfl rfl | exact .one rfl))) fun w' h' => ?_
    exact .mk (by rw [decide_eq_false (fun hv => by have := (hv.1 k (by omega) (by omega)).1; omega)]) h'
  · refine ret_ rfl (by repeat (first | exact ResAll.nil | (apply ResAll.cons; first | exact .tmp rfl | exact .cell rfl rfl | exact .one rfl))) fun w' h' => ?_
    exact .mk (by rw [decide_eq_false (fun hv => hc ((hv.1 k (by omega) (by omega)).2 (by omega)))]) h'
  · exact At_roundS (k + 1) ⟨by omega, okU_succ hok (by omega) (by omega) fun _ => Decidable.not_not.1 hc⟩ (by omega) (by repeat (first | exact trivial | refine And.intro rfl ?_)) (by repeat (first | exact trivial | refine And.intro rfl ?_))
  · exact At_roundS (k + 1) ⟨by omega, okU_succ hok (by omega) (by omega) fun h0 => by omega⟩ (by omega) (by repeat (first | exact trivial | refine And.intro rfl ?_)) (by repeat (first | exact trivial | refine And.intro rfl ?_))
  · refine ret_ rfl (by repeat (first | exact ResAll.nil | (apply ResAll.cons; first | exact .tmp rfl | exact .cell rfl rfl | exact .one rfl))) fun w' h' => ?_
    obtain rfl : k = d.length := by omega
    exact .mk (congrArg (fun b => Ending.returned (Value.bool b)) (decide_eq_decide.2 (⟨fun h => ⟨hok, by omega⟩, fun h => by have := h.2; omega⟩ : (d.length : Int) ≤ 4096 ↔ VaD d))) h'
theorem ref_Valid (w : World) (v : Value) (d : List ByteArray) [h : RdOld w [] v d] : Calls Try.prog 22 #[v] w (Is w (.bool (decide (VaD d)))) := by
  have hl := h.rd.len_le
  refine enter (N := 35) (args := [v]) Try.func22 rfl rfl rfl (St.refl w) ?_
  repeat' (first
  | refine G_nilC ?_
  | refine G_nilN ?_
  | refine G_nilH ?_
  | (refine G_nil ?_; try clear ri_; try clear ops_)
  | (refine V_op ?_; first | exact True.intro | (intro v_ h_ w_ r_ t_; try (obtain ⟨ta_, tb_⟩ := (t_ : _ ∧ _)); try (obtain ⟨tb_, tc_⟩ := (tb_ : _ ∧ _)); try (obtain ⟨tc_, td_⟩ := (tc_ : _ ∧ _)); try (obtain ⟨td_, te_⟩ := (td_ : _ ∧ _))) | intro (ops_ : Array Oper) ri_ | intro (b_ : Bool) hb_ | (intro v_ h_; try (have o_ := FrzK.one h_)) | intro (v_ : Value) | intro (b_ : Nat) | (refine ⟨fun hc => ?_, fun hc => ?_⟩ <;> try (exfalso; omega)) | refine ⟨?_, ?_⟩ | intro _ | skip)
  | (refine Is_DQ ?_; first | (apply DQ_m rfl rfl rfl rfl; focus (intro wq_ Oq_ rq_ mm; (repeat (first | (refine G_nil ?_; exact X_done rfl (List.Sublist.refl _)) | refine V_op ?_)); done)) | (apply DQ_k rfl rfl rfl rfl; intro wq_ Oq_ rq_ mm) | (apply DQ_y rfl rfl rfl rfl; intro wq_ Oq_ rq_ mm)))
  refine GC_loopS (X := Nat) (fun k => k ≤ d.length ∧ OkU d k) (fun k s => (3, I k) :: s) (fun _ q => q) (fun k => d.length - k) 0 ⟨Nat.zero_le _, okU_zero d⟩ (by repeat (first | exact trivial | refine And.intro rfl ?_)) ?_
  rintro k ⟨hk, hok⟩
  repeat' (first
  | refine G_nilC ?_
  | refine G_nilN ?_
  | refine G_nilH ?_
  | (refine G_nil ?_; try clear ri_; try clear ops_)
  | (refine V_op ?_; first | exact True.intro | (intro v_ h_ w_ r_ t_; try (obtain ⟨ta_, tb_⟩ := (t_ : _ ∧ _)); try (obtain ⟨tb_, tc_⟩ := (tb_ : _ ∧ _)); try (obtain ⟨tc_, td_⟩ := (tc_ : _ ∧ _)); try (obtain ⟨td_, te_⟩ := (td_ : _ ∧ _))) | intro (ops_ : Array Oper) ri_ | intro (b_ : Bool) hb_ | (intro v_ h_; try (have o_ := FrzK.one h_)) | intro (v_ : Value) | intro (b_ : Nat) | (refine ⟨fun hc => ?_, fun hc => ?_⟩ <;> try (exfalso; omega)) | refine ⟨?_, ?_⟩ | intro _ | skip)
  | (refine Is_DQ ?_; first | (apply DQ_m rfl rfl rfl rfl; focus (intro wq_ Oq_ rq_ mm; (repeat (first | (refine G_nil ?_; exact X_done rfl (List.Sublist.refl _)) | refine V_op ?_)); done)) | (apply DQ_k rfl rfl rfl rfl; intro wq_ Oq_ rq_ mm) | (apply DQ_y rfl rfl rfl rfl; intro wq_ Oq_ rq_ mm)))
  · refine ret_ rfl (by repeat (first | exact ResAll.nil | (apply ResAll.cons; first | exact .tmp rfl | exact .cell rfl rfl | exact .one rfl))) fun w' h' => ?_
    exact .mk (by rw [decide_eq_false (fun hv => by have := (hv.1 k (by omega) (by omega)).1; omega)]) h'
  · refine ret_ rfl (by repeat (first | exact ResAll.nil | (apply ResAll.cons; first | exact .tmp rfl | exact .cell rfl rfl | exact .one rfl))) fun w' h' => ?_
    exact .mk (by rw [decide_eq_false (fun hv => hc ((hv.1 k (by omega) (by omega)).2 (by omega)))]) h'
  · exact At_roundS (k + 1) ⟨by omega, okU_succ hok (by omega) (by omega) fun _ => Decidable.not_not.1 hc⟩ (by omega) (by repeat (first | exact trivial | refine And.intro rfl ?_)) (by repeat (first | exact trivial | refine And.intro rfl ?_))
  · exact At_roundS (k + 1) ⟨by omega, okU_succ hok (by omega) (by omega) fun h0 => by omega⟩ (by omega) (by repeat (first | exact trivial | refine And.intro rfl ?_)) (by repeat (first | exact trivial | refine And.intro rfl ?_))
  · refine ret_ rfl (by repeat (first | exact ResAll.nil | (apply ResAll.cons; first | exact .tmp rfl | exact .cell rfl rfl | exact .one rfl))) fun w' h' => ?_
    obtain rfl : k = d.length := by omega
    exact .mk (congrArg (fun b => Ending.returned (Value.bool b)) (decide_eq_decide.2 (⟨fun h => ⟨hok, by omega⟩, fun h => by have := h.2; omega⟩ : (d.length : Int) ≤ 4096 ↔ VaD d))) h'

/-- where a string stands -/
def ixD : List ByteArray → ByteArray → Nat
  | [], _ => 0
  | a :: l, s => if a = s then 0 else ixD l s + 1
theorem ixD_nil (s : ByteArray) : ixD [] s = 0 := rfl
theorem ixD_le : ∀ (l : List ByteArray) (s : ByteArray), ixD l s ≤ l.length
  | [], _ => Nat.le_refl _
  | a :: l, s => by
    rw [ixD]; split
    · exact Nat.zero_le _
    · exact Nat.succ_le_succ (ixD_le l s)
theorem ixD_lt : ∀ {l : List ByteArray} {s : ByteArray}, ixD l s < l.length ↔ s ∈ l
  | [], s => by simp
  | a :: l, s => by
    rw [ixD]; split
    · rename_i h; simp [h]
    · rename_i h
      rw [List.length_cons, Nat.succ_lt_succ_iff, ixD_lt, List.mem_cons]
      exact ⟨.inr, fun h1 => h1.elim (fun e => absurd e.symm h) id⟩
theorem ixD_get : ∀ {l : List ByteArray} {s : ByteArray} (h : ixD l s < l.length), l[ixD l s] = s
  | [], s, h => by simp at h
  | a :: l, s, h => by
    by_cases e : a = s
    · simp only [ixD, e, if_true]; rfl
    · simp only [ixD, e, if_false, List.getElem_cons_succ]
      exact ixD_get _
theorem ixD_drop : ∀ {l : List ByteArray} {s : ByteArray} {k : Nat}, k ≤ l.length → (∀ i (h : i < l.length), i < k → ¬ l[i] = s) → ixD l s = k + ixD (l.drop k) s
  | l, s, 0, _, _ => by simp
  | [], s, k + 1, h, _ => by simp at h
  | a :: l, s, k + 1, h, h' => by
    have e : ¬ a = s := h' 0 (by simp) (by omega)
    rw [ixD, if_neg e, List.drop_succ_cons, ixD_drop (l := l) (k := k) (by simpa using h) (fun i hi hk => h' (i + 1) (by simpa using hi) (by omega))]
    omega
theorem ixD_at {l : List ByteArray} {s : ByteArray} {k : Nat} (hk : k < l.length) (h : l[k] = s) (h' : ∀ i (h : i < l.length), i < k → ¬ l[i] = s) : ixD l s = k := by
  rw [ixD_drop (Nat.le_of_lt hk) h', List.drop_eq_getElem_cons hk, ixD, if_pos h]; rfl
/-- the index, or -1 -/
def fnD (l : List ByteArray) (s : ByteArray) : Int := if ixD l s < l.length then (ixD l s : Int) else -1
theorem ref_Find (w : World) (v : Value) (d : List ByteArray) (t : ByteArray) [h : RdOld w [] v d] : Calls Try.prog 28 #[v, .string t] w (Is w (I (fnD d t))) := by
  have hl := h.rd.len_le
  refine enter (N := 19) (args := [v, .string t]) Try.func28 rfl rfl rfl (St.refl w) ?_
  repeat' (first
  | refine G_nilC ?_
  | refine G_nilN ?_
  | refine G_nilH ?_
  | (refine G_nil ?_; try clear ri_; try clear ops_)
  | (refine V_op ?_; first | exact True.intro | (intro v_ h_ w_ r_ t_; try (obtain ⟨ta_, tb_⟩ := (t_ : _ ∧ _)); try (obtain ⟨tb_, tc_⟩ := (tb_ : _ ∧ _)); try (obtain ⟨tc_, td_⟩ := (tc_ : _ ∧ _)); try (obtain ⟨td_, te_⟩ := (td_ : _ ∧ _))) | intro (ops_ : Array Oper) ri_ | intro (b_ : Bool) hb_ | (intro v_ h_; try (have o_ := FrzK.one h_)) | intro (v_ : Value) | intro (b_ : Nat) | (refine ⟨fun hc => ?_, fun hc => ?_⟩ <;> try (exfalso; omega)) | refine ⟨?_, ?_⟩ | intro _ | skip)
  | (refine Is_DQ ?_; first | (apply DQ_m rfl rfl rfl rfl; focus (intro wq_ Oq_ rq_ mm; (repeat (first | (refine G_nil ?_; exact X_done rfl (List.Sublist.refl _)) | refine V_op ?_)); done)) | (apply DQ_k rfl rfl rfl rfl; intro wq_ Oq_ rq_ mm) | (apply DQ_y rfl rfl rfl rfl; intro wq_ Oq_ rq_ mm)))
  refine GC_loopS (X := Nat) (fun k => k ≤ d.length ∧ ∀ i (h : i < d.length), i < k → ¬ d[i] = t) (fun k s => (5, I k) :: s) (fun _ q => q) (fun k => d.length - k) 0 ⟨Nat.zero_le _, fun i h h0 => by omega⟩ (by repeat (first | exact trivial | refine And.intro rfl ?_)) ?_
  rintro k ⟨hk, hok⟩
  repeat' (first
  | refine G_nilC ?_
  | refine G_nilN ?_
  | refine G_nilH ?_
  | (refine G_nil ?_; try clear ri_; try clear ops_)
  | (refine V_op ?_; first | exact True.intro | (intro v_ h_ w_ r_ t_; try (obtain ⟨ta_, tb_⟩ := (t_ : _ ∧ _)); try (obtain ⟨tb_, tc_⟩ := (tb_ : _ ∧ _)); try (obtain ⟨tc_, td_⟩ := (tc_ : _ ∧ _)); try (obtain ⟨td_, te_⟩ := (td_ : _ ∧ _))) | intro (ops_ : Array Oper) ri_ | intro (b_ : Bool) hb_ | (intro v_ h_; try (have o_ := FrzK.one h_)) | intro (v_ : Value) | intro (b_ : Nat) | (refine ⟨fun hc => ?_, fun hc => ?_⟩ <;> try (exfalso; omega)) | refine ⟨?_, ?_⟩ | intro _ | skip)
  | (refine Is_DQ ?_; first | (apply DQ_m rfl rfl rfl rfl; focus (intro wq_ Oq_ rq_ mm; (repeat (first | (refine G_nil ?_; exact X_done rfl (List.Sublist.refl _)) | refine V_op ?_)); done)) | (apply DQ_k rfl rfl rfl rfl; intro wq_ Oq_ rq_ mm) | (apply DQ_y rfl rfl rfl rfl; intro wq_ Oq_ rq_ mm)))
  · refine ret_ rfl (by repeat (first | exact ResAll.nil | (apply ResAll.cons; first | exact .tmp rfl | exact .cell rfl rfl | exact .one rfl))) fun w' h' => ?_
    have e := ixD_at (l := d) (s := t) (k := k) (by omega) (bL_inj hc) hok
    exact .mk (by rw [fnD, if_pos (by omega), e]) h'
  · exact At_roundS (k + 1) ⟨by omega, fun i hi hik => by
      by_cases e : i = k
      · subst e; exact fun e => hc (by rw [e])
      · exact hok i hi (by omega)⟩ (by omega) (by repeat (first | exact trivial | refine And.intro rfl ?_)) (by repeat (first | exact trivial | refine And.intro rfl ?_))
  · refine ret_ rfl (by repeat (first | exact ResAll.nil | (apply ResAll.cons; first | exact .tmp rfl | exact .cell rfl rfl | exact .one rfl))) fun w' h' => ?_
    obtain rfl : k = d.length := by omega
    exact .mk (by rw [fnD, if_neg (fun h => hok _ h h (ixD_get h))]) h'

/-- how many bytes two strings share at their beginnings -/
def shB : List (BitVec 8) → List (BitVec 8) → Nat
  | a :: x, b :: y => if a = b then shB x y + 1 else 0
  | _, _ => 0
theorem shB_le : ∀ (a b : List (BitVec 8)), shB a b ≤ a.length ∧ shB a b ≤ b.length
  | [], _ => ⟨Nat.le_refl _, Nat.zero_le _⟩
  | _ :: _, [] => ⟨Nat.zero_le _, Nat.le_refl _⟩
  | a :: x, b :: y => by
    rw [shB]; split
    · exact ⟨Nat.succ_le_succ (shB_le x y).1, Nat.succ_le_succ (shB_le x y).2⟩
    · exact ⟨Nat.zero_le _, Nat.zero_le _⟩
theorem shB_drop : ∀ {a b : List (BitVec 8)} {k : Nat}, k ≤ a.length → k ≤ b.length → a.take k = b.take k → shB a b = k + shB (a.drop k) (b.drop k)
  | a, b, 0, _, _, _ => by simp
  | [], _, k + 1, h, _, _ => by simp at h
  | _ :: _, [], k + 1, _, h, _ => by simp at h
  | a :: x, b :: y, k + 1, h, h', e => by
    simp only [List.take_succ_cons, List.cons.injEq] at e
    rw [shB, if_pos e.1, List.drop_succ_cons, List.drop_succ_cons, shB_drop (by simpa using h) (by simpa using h') e.2]
    omega
theorem shB_stop {a b : List (BitVec 8)} {k : Nat} (h1 : k ≤ a.length) (h2 : k ≤ b.length) (he : a.take k = b.take k) (h : ∀ (h1 : k < a.length) (h2 : k < b.length), ¬ a[k] = b[k]) : shB a b = k := by
  rw [shB_drop h1 h2 he]
  have : shB (a.drop k) (b.drop k) = 0 := by
    by_cases ha : k < a.length
    · by_cases hb : k < b.length
      · rw [List.drop_eq_getElem_cons ha, List.drop_eq_getElem_cons hb, shB, if_neg (h ha hb)]
      · rw [List.drop_of_length_le (show b.length ≤ k by omega)]; cases a.drop k <;> rfl
    · rw [List.drop_of_length_le (show a.length ≤ k by omega)]; cases b.drop k <;> rfl
  omega
theorem run_shared (w : World) (a b : ByteArray) (hla : (bL a).length ≤ 1000000) : Calls Try.prog 42 #[.string a, .string b] w (Is w (I (shB (bL a) (bL b)))) := by
  refine enter (N := 25) (args := [.string a, .string b]) Try.func42 rfl rfl rfl (St.refl w) ?_
  repeat' (first
  | refine G_nilC ?_
  | refine G_nilN ?_
  | refine G_nilH ?_
  | (refine G_nil ?_; try clear ri_; try clear ops_)
  | (refine V_op ?_; first | exact True.intro | (intro v_ h_ w_ r_ t_; try (obtain ⟨ta_, tb_⟩ := (t_ : _ ∧ _)); try (obtain ⟨tb_, tc_⟩ := (tb_ : _ ∧ _)); try (obtain ⟨tc_, td_⟩ := (tc_ : _ ∧ _)); try (obtain ⟨td_, te_⟩ := (td_ : _ ∧ _))) | intro (ops_ : Array Oper) ri_ | intro (b_ : Bool) hb_ | (intro v_ h_; try (have o_ := FrzK.one h_)) | intro (v_ : Value) | intro (b_ : Nat) | (refine ⟨fun hc => ?_, fun hc => ?_⟩ <;> try (exfalso; omega)) | refine ⟨?_, ?_⟩ | intro _ | skip)
  | (refine Is_DQ ?_; first | (apply DQ_m rfl rfl rfl rfl; focus (intro wq_ Oq_ rq_ mm; (repeat (first | (refine G_nil ?_; exact X_done rfl (List.Sublist.refl _)) | refine V_op ?_)); done)) | (apply DQ_k rfl rfl rfl rfl; intro wq_ Oq_ rq_ mm) | (apply DQ_y rfl rfl rfl rfl; intro wq_ Oq_ rq_ mm)))
  refine GC_loopS (X := Nat) (fun k => k ≤ (bL a).length ∧ k ≤ (bL b).length ∧ (bL a).take k = (bL b).take k) (fun k s => (5, I k) :: s) (fun _ q => q) (fun k => (bL a).length - k) 0 ⟨Nat.zero_le _, Nat.zero_le _, by simp⟩ (by repeat (first | exact trivial | refine And.intro rfl ?_)) ?_
  rintro k ⟨h1, h2, he⟩
  repeat' (first
  | refine G_nilC ?_
  | refine G_nilN ?_
  | refine G_nilH ?_
  | (refine G_nil ?_; try clear ri_; try clear ops_)
  | (refine V_op ?_; first | exact True.intro | (intro v_ h_ w_ r_ t_; try (obtain ⟨ta_, tb_⟩ := (t_ : _ ∧ _)); try (obtain ⟨tb_, tc_⟩ := (tb_ : _ ∧ _)); try (obtain ⟨tc_, td_⟩ := (tc_ : _ ∧ _)); try (obtain ⟨td_, te_⟩ := (td_ : _ ∧ _))) | intro (ops_ : Array Oper) ri_ | intro (b_ : Bool) hb_ | (intro v_ h_; try (have o_ := FrzK.one h_)) | intro (v_ : Value) | intro (b_ : Nat) | (refine ⟨fun hc => ?_, fun hc => ?_⟩ <;> try (exfalso; omega)) | refine ⟨?_, ?_⟩ | intro _ | skip)
  | (refine Is_DQ ?_; first | (apply DQ_m rfl rfl rfl rfl; focus (intro wq_ Oq_ rq_ mm; (repeat (first | (refine G_nil ?_; exact X_done rfl (List.Sublist.refl _)) | refine V_op ?_)); done)) | (apply DQ_k rfl rfl rfl rfl; intro wq_ Oq_ rq_ mm) | (apply DQ_y rfl rfl rfl rfl; intro wq_ Oq_ rq_ mm)))
  · exact At_roundS (k + 1) ⟨by omega, by omega, (same_step (by omega) (by omega) he).2 (BitVec.eq_of_toNat_eq (by omega))⟩ (by omega) (by repeat (first | exact trivial | refine And.intro rfl ?_)) (by repeat (first | exact trivial | refine And.intro rfl ?_))
  · refine ret_ rfl (by repeat (first | exact ResAll.nil | (apply ResAll.cons; first | exact .tmp rfl | exact .cell rfl rfl | exact .one rfl))) fun w' h' => ?_
    exact .mk (by rw [shB_stop h1 h2 he fun h3 h4 e => hc (by rw [e])]) h'
  · refine ret_ rfl (by repeat (first | exact ResAll.nil | (apply ResAll.cons; first | exact .tmp rfl | exact .cell rfl rfl | exact .one rfl))) fun w' h' => ?_
    exact .mk (by rw [shB_stop h1 h2 he fun h3 h4 e => by omega]) h'
theorem ref_Shared (w : World) (a b : ByteArray) (hla : (bL a).length ≤ 1000000) : Calls Try.prog 33 #[.string a, .string b] w (Is w (I (shB (bL a) (bL b)))) := by
  refine enter (N := 28) (args := [.string a, .string b]) Try.func33 rfl rfl rfl (St.refl w) ?_
  repeat' (first
  | refine G_nilC ?_
  | refine G_nilN ?_
  | refine G_nilH ?_
  | (refine G_nil ?_; try clear ri_; try clear ops_)
  | (refine V_op ?_; first | exact True.intro | (intro v_ h_ w_ r_ t_; try (obtain ⟨ta_, tb_⟩ := (t_ : _ ∧ _)); try (obtain ⟨tb_, tc_⟩ := (tb_ : _ ∧ _)); try (obtain ⟨tc_, td_⟩ := (tc_ : _ ∧ _)); try (obtain ⟨td_, te_⟩ := (td_ : _ ∧ _))) | intro (ops_ : Array Oper) ri_ | intro (b_ : Bool) hb_ | (intro v_ h_; try (have o_ := FrzK.one h_)) | intro (v_ : Value) | intro (b_ : Nat) | (refine ⟨fun hc => ?_, fun hc => ?_⟩ <;> try (exfalso; omega)) | refine ⟨?_, ?_⟩ | intro _ | skip)
  | (refine Is_DQ ?_; first | (apply DQ_m rfl rfl rfl rfl; focus (intro wq_ Oq_ rq_ mm; (repeat (first | (refine G_nil ?_; exact X_done rfl (List.Sublist.refl _)) | refine V_op ?_)); done)) | (apply DQ_k rfl rfl rfl rfl; intro wq_ Oq_ rq_ mm) | (apply DQ_y rfl rfl rfl rfl; intro wq_ Oq_ rq_ mm)))
  refine GC_loopS (X := Nat) (fun k => k ≤ (bL a).length ∧ k ≤ (bL b).length ∧ (bL a).take k = (bL b).take k) (fun k s => (5, I k) :: s) (fun _ q => q) (fun k => (bL a).length - k) 0 ⟨Nat.zero_le _, Nat.zero_le _, by simp⟩ (by repeat (first | exact trivial | refine And.intro rfl ?_)) ?_
  rintro k ⟨h1, h2, he⟩
  repeat' (first
  | refine G_nilC ?_
  | refine G_nilN ?_
  | refine G_nilH ?_
  | (refine G_nil ?_; try clear ri_; try clear ops_)
  | (refine V_op ?_; first | exact True.intro | (intro v_ h_ w_ r_ t_; try (obtain ⟨ta_, tb_⟩ := (t_ : _ ∧ _)); try (obtain ⟨tb_, tc_⟩ := (tb_ : _ ∧ _)); try (obtain ⟨tc_, td_⟩ := (tc_ : _ ∧ _)); try (obtain ⟨td_, te_⟩ := (td_ : _ ∧ _))) | intro (ops_ : Array Oper) ri_ | intro (b_ : Bool) hb_ | (intro v_ h_; try (have o_ := FrzK.one h_)) | intro (v_ : Value) | intro (b_ : Nat) | (refine ⟨fun hc => ?_, fun hc => ?_⟩ <;> try (exfalso; omega)) | refine ⟨?_, ?_⟩ | intro _ | skip)
  | (refine Is_DQ ?_; first | (apply DQ_m rfl rfl rfl rfl; focus (intro wq_ Oq_ rq_ mm; (repeat (first | (refine G_nil ?_; exact X_done rfl (List.Sublist.refl _)) | refine V_op ?_)); done)) | (apply DQ_k rfl rfl rfl rfl; intro wq_ Oq_ rq_ mm) | (apply DQ_y rfl rfl rfl rfl; intro wq_ Oq_ rq_ mm)))
  · exact At_roundS (k + 1) ⟨by omega, by omega, (same_step (by omega) (by omega) he).2 (BitVec.eq_of_toNat_eq (by omega))⟩ (by omega) (by repeat (first | exact trivial | refine And.intro rfl ?_)) (by repeat (first | exact trivial | refine And.intro rfl ?_))
  · refine ret_ rfl (by repeat (first | exact ResAll.nil | (apply ResAll.cons; first | exact .tmp rfl | exact .cell rfl rfl | exact .one rfl))) fun w' h' => ?_
    exact .mk (by rw [shB_stop h1 h2 he fun h3 h4 e => hc (by rw [e])]) h'
  all_goals
    refine ret_ rfl (by repeat (first | exact ResAll.nil | (apply ResAll.cons; first | exact .tmp rfl | exact .cell rfl rfl | exact .one rfl))) fun w' h' => ?_
    exact .mk (by rw [shB_stop h1 h2 he fun h3 h4 e => by omega]) h'

theorem ref_SameS (w : World) (v v' : Value) (l l' : List ByteArray) [h : RdOld w [] v l] [h' : RdOld w [] v' l'] : Calls Try.prog 19 #[v, v'] w (Is w (.bool (decide (l = l')))) := by
  have hl := h.rd.len_le
  have hl' := h'.rd.len_le
  refine enter (N := 26) (args := [v, v']) Try.func19 rfl rfl rfl (St.refl w) ?_
  repeat' (first
  | refine G_nilC ?_
  | refine G_nilN ?_
  | refine G_nilH ?_
  | (refine G_nil ?_; try clear ri_; try clear ops_)
  | (refine V_op ?_; first | exact True.intro | (intro v_ h_ w_ r_ t_; try (obtain ⟨ta_, tb_⟩ := (t_ : _ ∧ _)); try (obtain ⟨tb_, tc_⟩ := (tb_ : _ ∧ _)); try (obtain ⟨tc_, td_⟩ := (tc_ : _ ∧ _)); try (obtain ⟨td_, te_⟩ := (td_ : _ ∧ _))) | intro (ops_ : Array Oper) ri_ | intro (b_ : Bool) hb_ | (intro v_ h_; try (have o_ := FrzK.one h_)) | intro (v_ : Value) | intro (b_ : Nat) | (refine ⟨fun hc => ?_, fun hc => ?_⟩ <;> try (exfalso; omega)) | refine ⟨?_, ?_⟩ | intro _ | skip)
  | (refine Is_DQ ?_; first | (apply DQ_m rfl rfl rfl rfl; focus (intro wq_ Oq_ rq_ mm; (repeat (first | (refine G_nil ?_; exact X_done rfl (List.Sublist.refl _)) | refine V_op ?_)); done)) | (apply DQ_k rfl rfl rfl rfl; intro wq_ Oq_ rq_ mm) | (apply DQ_y rfl rfl rfl rfl; intro wq_ Oq_ rq_ mm)))
  · refine ret_ rfl (by repeat (first | exact ResAll.nil | (apply ResAll.cons; first | exact .tmp rfl | exact .cell rfl rfl | exact .one rfl))) fun w' h' => ?_
    exact .mk (by rw [decide_eq_false (p := l = l') (fun he => by subst he; omega)]) h'
  · refine GC_loopS (X := Nat) (fun k => k ≤ l.length ∧ l.take k = l'.take k) (fun k s => (5, I k) :: s) (fun _ r => r) (fun k => l.length - k) 0 ⟨Nat.zero_le _, by simp⟩ (by repeat (first | exact trivial | refine And.intro rfl ?_)) ?_
    rintro k ⟨hk, he⟩
    repeat' (first
  | refine G_nilC ?_
  | refine G_nilN ?_
  | refine G_nilH ?_
  | (refine G_nil ?_; try clear ri_; try clear ops_)
  | (refine V_op ?_; first | exact True.intro | (intro v_ h_ w_ r_ t_; try (obtain ⟨ta_, tb_⟩ := (t_ : _ ∧ _)); try (obtain ⟨tb_, tc_⟩ := (tb_ : _ ∧ _)); try (obtain ⟨tc_, td_⟩ := (tc_ : _ ∧ _)); try (obtain ⟨td_, te_⟩ := (td_ : _ ∧ _))) | intro (ops_ : Array Oper) ri_ | intro (b_ : Bool) hb_ | (intro v_ h_; try (have o_ := FrzK.one h_)) | intro (v_ : Value) | intro (b_ : Nat) | (refine ⟨fun hc => ?_, fun hc => ?_⟩ <;> try (exfalso; omega)) | refine ⟨?_, ?_⟩ | intro _ | skip)
  | (refine Is_DQ ?_; first | (apply DQ_m rfl rfl rfl rfl; focus (intro wq_ Oq_ rq_ mm; (repeat (first | (refine G_nil ?_; exact X_done rfl (List.Sublist.refl _)) | refine V_op ?_)); done)) | (apply DQ_k rfl rfl rfl rfl; intro wq_ Oq_ rq_ mm) | (apply DQ_y rfl rfl rfl rfl; intro wq_ Oq_ rq_ mm)))
    · refine ret_ rfl (by repeat (first | exact ResAll.nil | (apply ResAll.cons; first | exact .tmp rfl | exact .cell rfl rfl | exact .one rfl))) fun w' h' => ?_
      exact .mk (by rw [decide_eq_false (p := l = l') (fun he => by subst he; exact hc rfl)]) h'
    · exact At_roundS (k + 1) ⟨by omega, (same_step (by omega) (by omega) he).2 (bL_inj (Decidable.not_not.1 hc))⟩ (by omega) (by repeat (first | exact trivial | refine And.intro rfl ?_)) (by repeat (first | exact trivial | refine And.intro rfl ?_))
    · refine ret_ rfl (by repeat (first | exact ResAll.nil | (apply ResAll.cons; first | exact .tmp rfl | exact .cell rfl rfl | exact .one rfl))) fun w' h' => ?_
      have e1 : k = l.length := by omega
      rw [List.take_of_length_le (by omega), List.take_of_length_le (by omega)] at he
      exact .mk (by rw [decide_eq_true he]) h'
theorem lib_CloneS (w : World) (v : Value) (l : List ByteArray) [h : RdOld w [] v l] (hl : l.length ≤ 1000000) : Calls Try.prog 34 #[v] w (Ret w [] (fun _ : Value => True) (fun r => r) (fun r => [row r 9 l])) := by
  have hlen := h.rd.len_le
  refine enter (N := 8) (args := [v]) Try.func34 rfl rfl rfl (St.refl w) ?_
  repeat' (first
  | refine G_nilC ?_
  | refine G_nilN ?_
  | refine G_nilH ?_
  | (refine G_nil ?_; try clear ri_; try clear ops_)
  | (refine V_opW ?_; first | exact True.intro | (intro v_ h_ w_ r_ t_; try (obtain ⟨ta_, tb_⟩ := (t_ : _ ∧ _)); try (obtain ⟨tb_, tc_⟩ := (tb_ : _ ∧ _)); try (obtain ⟨tc_, td_⟩ := (tc_ : _ ∧ _)); try (obtain ⟨td_, te_⟩ := (td_ : _ ∧ _))) | intro (ops_ : Array Oper) ri_ | intro (b_ : Bool) hb_ | (intro v_ h_; try (have o_ := FrzK.one h_)) | intro (v_ : Value) | intro (b_ : Nat) | (refine ⟨fun hc => ?_, fun hc => ?_⟩ <;> try (exfalso; omega)) | refine ⟨?_, ?_⟩ | intro _ | skip)
  | (refine Is_DQ ?_; first | (apply DQ_m rfl rfl rfl rfl; focus (intro wq_ Oq_ rq_ mm; (repeat (first | (refine G_nil ?_; exact X_done rfl (List.Sublist.refl _)) | refine V_opW ?_)); done)) | (apply DQ_k rfl rfl rfl rfl; intro wq_ Oq_ rq_ mm) | (apply DQ_y rfl rfl rfl rfl; intro wq_ Oq_ rq_ mm)))
  · have := hb_ hc
    subst this
    refine ret_ rfl (by repeat (first | exact ResAll.nil | (apply ResAll.cons; first | exact .tmp rfl | exact .cell rfl rfl | exact .one rfl))) fun w' h' => ?_
    exact .mk (.slice none 0 0) trivial rfl h'
  · refine ret_ rfl (by repeat (first | exact ResAll.nil | (apply ResAll.cons; first | exact .tmp rfl | exact .cell rfl rfl | exact .one rfl))) fun w' h' => ?_
    exact .mk _ trivial rfl h'
section
variable {w0 : World} {O : List Nat} {m : List As} {v v' : Value} {d l l' : List ByteArray} {a b t : ByteArray}
instance [h : RdR w0 O m v d] : CallV Try.prog w0 O m 21 [v] True (.bool (decide (VaD d))) := ⟨fun _ w hw => @run_Valid w v d (RdOld.of (h.rd w hw))⟩
instance [h : RdR w0 O m v d] : CallV Try.prog w0 O m 22 [v] True (.bool (decide (VaD d))) := ⟨fun _ w hw => @ref_Valid w v d (RdOld.of (h.rd w hw))⟩
instance [h : RdR w0 O m v d] : CallV Try.prog w0 O m 28 [v, .string t] True (I (fnD d t)) := ⟨fun _ w hw => @ref_Find w v d t (RdOld.of (h.rd w hw))⟩
instance [h : RdR w0 O m v l] [h' : RdR w0 O m v' l'] : CallV Try.prog w0 O m 19 [v, v'] True (.bool (decide (l = l'))) := ⟨fun _ w hw => @ref_SameS w v v' l l' (RdOld.of (h.rd w hw)) (RdOld.of (h'.rd w hw))⟩
instance {x y : List (BitVec 8)} [h : StrL a x] [h' : StrL b y] : CallV Try.prog w0 O m 42 [.string a, .string b] (x.length ≤ 1000000) (I (shB x y)) := ⟨fun hs w _ => by rw [← h.eq] at hs; rw [← h.eq, ← h'.eq]; exact run_shared w a b hs⟩
instance {x y : List (BitVec 8)} [h : StrL a x] [h' : StrL b y] : CallV Try.prog w0 O m 33 [.string a, .string b] (x.length ≤ 1000000) (I (shB x y)) := ⟨fun hs w _ => by rw [← h.eq] at hs; rw [← h.eq, ← h'.eq]; exact ref_Shared w a b hs⟩
instance [h : RdR w0 O m v l] : CallR Try.prog w0 O m 34 [v] (l.length ≤ 1000000) (fun _ : Value => True) (fun r => r) (fun r => row r 9 l :: m) :=
  .new1 (M := fun r => row r _ l) fun hs w hw => @lib_CloneS w v l (RdOld.of (h.rd w hw)) hs
end
end Go.Proofs.Ytnncjfphdcfimaa
