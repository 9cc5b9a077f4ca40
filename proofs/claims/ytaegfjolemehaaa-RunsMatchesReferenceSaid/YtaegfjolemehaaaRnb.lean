/- Runs: the runs of a list, in the program and in the reference. -/
import Derived.Test.YtaegfjolemehaaaRna
set_option linter.unusedVariables false
set_option linter.unusedSimpArgs false
set_option maxRecDepth 100000
set_option maxHeartbeats 4000000
namespace Go.Proofs.Ytaegfjolemehaaa
open Go.RowKit
attribute [local irreducible] G GC At wpL DR XPost CPost Cut GA GAR GAX GAt NxA GH GHR NxH

def rstep (a : List (Int × Nat)) (x : Int) : List (Int × Nat) := match a with
  | [] => [(x, 1)]
  | (v, n) :: t => if v = x then (v, n + 1) :: t else (x, 1) :: (v, n) :: t
def rrev (l : List Int) : List (Int × Nat) := l.foldl rstep []
/-- the runs of a list -/
def rns (l : List Int) : List (Int × Nat) := (rrev l).reverse
def rvs (l : List Int) : List Int := (rns l).map (·.1)
def rls (l : List Int) : List Int := (rns l).map fun p => (p.2 : Int)
@[simp] theorem rvs_length (l : List Int) : (rvs l).length = (rns l).length := by simp [rvs]
@[simp] theorem rls_length (l : List Int) : (rls l).length = (rns l).length := by simp [rls]
theorem rrev_snoc (l : List Int) (x : Int) : rrev (l ++ [x]) = rstep (rrev l) x := by simp [rrev]
theorem rrev_last (l : List Int) (y : Int) : ∃ n t, rrev (l ++ [y]) = (y, n) :: t := by
  rw [rrev_snoc]
  unfold rstep
  split
  · exact ⟨_, _, rfl⟩
  · split
    · rename_i h; subst h; exact ⟨_, _, rfl⟩
    · exact ⟨_, _, rfl⟩
theorem take_last {l : List Int} {i : Nat} (h0 : 0 < i) (h : i ≤ l.length) : l.take i = l.take (i - 1) ++ [l[i - 1]'(by omega)] := by
  have := List.take_succ_eq_append_getElem (show i - 1 < l.length by omega)
  rwa [show i - 1 + 1 = i by omega] at this
theorem rns_pos {l : List Int} {i : Nat} (h0 : 0 < i) (h : i ≤ l.length) : 0 < (rns (l.take i)).length := by
  obtain ⟨n, t, e⟩ := rrev_last (l.take (i - 1)) (l[i - 1]'(by omega))
  rw [take_last h0 h, rns, e]; simp
theorem rns_same {l : List Int} {i : Nat} (h0 : 0 < i) (h : i < l.length) (e : l[i] = l[i - 1]) :
    rvs (l.take (i + 1)) = rvs (l.take i) ∧ rls (l.take (i + 1)) = (rls (l.take i)).set ((rns (l.take i)).length - 1) ((rls (l.take i)).getD ((rns (l.take i)).length - 1) 0 + 1) := by
  obtain ⟨n, t, e1⟩ := rrev_last (l.take (i - 1)) (l[i - 1]'(by omega))
  rw [← take_last h0 (by omega)] at e1
  have e2 : rrev (l.take (i + 1)) = (l[i - 1], n + 1) :: t := by
    rw [List.take_succ_eq_append_getElem h, rrev_snoc, e1, rstep, if_pos e.symm]
  simp only [rvs, rls, rns, e1, e2, List.reverse_cons, List.map_append, List.map_cons, List.map_nil, List.length_append, List.length_reverse, List.length_cons, List.length_nil, Nat.add_sub_cancel, Nat.zero_add, true_and]
  have hl : (t.reverse.map fun p => (p.2 : Int)).length = t.length := by simp
  rw [List.set_append, if_neg (by omega), hl, Nat.sub_self, List.set_cons_zero, List.getD_eq_getElem?_getD, List.getElem?_append_right (by omega), hl, Nat.sub_self]
  simp
theorem rns_other {l : List Int} {i : Nat} (h : i < l.length) (e : ∀ h0 : 0 < i, ¬ l[i] = l[i - 1]) :
    rvs (l.take (i + 1)) = rvs (l.take i) ++ [l[i]] ∧ rls (l.take (i + 1)) = rls (l.take i) ++ [1] := by
  have key : rrev (l.take (i + 1)) = (l[i], 1) :: rrev (l.take i) := by
    rw [List.take_succ_eq_append_getElem h, rrev_snoc]
    rcases Nat.eq_zero_or_pos i with rfl | h0
    · rfl
    · obtain ⟨n, t, e1⟩ := rrev_last (l.take (i - 1)) (l[i - 1]'(by omega))
      rw [← take_last h0 (by omega)] at e1
      rw [e1, rstep, if_neg (fun e' => e h0 e'.symm)]
  simp only [rvs, rls, rns, key, List.reverse_cons, List.map_append, List.map_cons, List.map_nil]
  constructor <;> trivial

theorem rstep_app (a b : List (Int × Nat)) (x : Int) (h : a ≠ []) : rstep (a ++ b) x = rstep a x ++ b := by
  cases a with
  | nil => exact absurd rfl h
  | cons p t =>
    simp only [rstep, List.cons_append]
    split <;> rfl
theorem rstep_ne (a : List (Int × Nat)) (x : Int) : rstep a x ≠ [] := by
  unfold rstep; split
  · simp
  · split <;> simp
theorem foldl_rstep_app : ∀ (l : List Int) (a b : List (Int × Nat)), a ≠ [] → l.foldl rstep (a ++ b) = l.foldl rstep a ++ b
  | [], _, _, _ => rfl
  | x :: r, a, b, h => by
    rw [List.foldl_cons, List.foldl_cons, rstep_app a b x h]
    exact foldl_rstep_app r _ b (rstep_ne a x)
theorem rrev_rep (x : Int) : ∀ k, rrev (List.replicate (k + 1) x) = [(x, k + 1)]
  | 0 => rfl
  | k + 1 => by rw [List.replicate_succ', rrev_snoc, rrev_rep x k, rstep, if_pos rfl]
/-- a list that begins with a run -/
theorem rns_lead {x : Int} {k : Nat} {r : List Int} (hk : 0 < k) (hr : ∀ h : 0 < r.length, ¬ r[0] = x) : rns (List.replicate k x ++ r) = (x, k) :: rns r := by
  obtain ⟨k, rfl⟩ : ∃ j, k = j + 1 := ⟨k - 1, by omega⟩
  have e : rrev (List.replicate (k + 1) x ++ r) = rrev r ++ [(x, k + 1)] := by
    show (List.replicate (k + 1) x ++ r).foldl rstep [] = _
    rw [List.foldl_append]
    show r.foldl rstep (rrev (List.replicate (k + 1) x)) = _
    rw [rrev_rep]
    cases r with
    | nil => rfl
    | cons y t =>
      have hy : ¬ y = x := hr (by simp)
      rw [List.foldl_cons, rstep, if_neg (fun e => hy e.symm)]
      exact foldl_rstep_app t [(y, 1)] [(x, k + 1)] (by simp)
  rw [rns, e]; simp [rns]
theorem lead_split {l : List Int} {n : Nat} (hn : n ≤ l.length) (h : ∀ j (hj : j < n), l[j]'(by omega) = l[0]'(by omega)) (h0 : 0 < n) : l = List.replicate n (l[0]'(by omega)) ++ l.drop n := by
  have : l.take n = List.replicate n (l[0]'(by omega)) := by
    apply List.ext_getElem
    · simp; omega
    · intro j h1 h2
      simp at h1 h2
      rw [List.getElem_take, List.getElem_replicate, h j h2]
  conv => lhs; rw [← List.take_append_drop n l, this]
theorem rns_nil : rns [] = [] := rfl

theorem run_each (w : World) (v : Value) (l : List Int) [h : RdOld w [] v l] : Calls Try.prog 42 #[v] w (Ret w [] (fun _ : Nat => True) (fun b => .func (.func 59) #[] #[.pointer (some ⟨b, 0, none⟩)]) (fun b => [.box b (.cells #[v] 22)])) := by
  refine enter (N := 4) (args := [v]) Try.func42 rfl rfl rfl (St.refl w) ?_
  repeat' (first
  | refine G_nilC ?_
  | refine G_nilN ?_
  | refine G_nilH ?_
  | (refine G_nil ?_; try clear ri_; try clear ops_)
  | (refine V_op ?_; first | exact True.intro | intro v_ h_ w_ r_ t_ | intro (ops_ : Array Oper) ri_ | intro (b_ : Bool) hb_ | intro v_ h_ | intro (v_ : Value) | intro (b_ : Nat) | (refine ⟨fun hc => ?_, fun hc => ?_⟩ <;> try (exfalso; omega)) | refine ⟨?_, ?_⟩ | intro _ | skip)
  | (refine Is_DQ ?_; first | (apply DQ_k rfl rfl rfl; intro mm) | (apply DQ_x rfl rfl rfl; intro mm)))
  refine ret_ rfl (by repeat (first | exact ResAll.nil | (apply ResAll.cons; first | exact .tmp rfl | exact .cell rfl rfl | exact .one rfl))) fun w' h' => ?_
  exact .mk b_ trivial rfl h'
instance {w0 : World} {O : List Nat} {m : List As} {v : Value} {l : List Int} [h : RdR w0 O m v l] : CallR Try.prog w0 O m 42 [v] True (fun _ : Nat => True) (fun b => .func (.func 59) #[] #[.pointer (some ⟨b, 0, none⟩)]) (fun b => .box b (.cells #[v] 22) :: m) :=
  ⟨fun _ w hw => (@run_each w v l (RdOld.of (h.rd w hw))).mono (by
    rintro e w' ⟨b, _, he, hst⟩
    exact ⟨b, trivial, he, hw.grow hst⟩)⟩

/-- the iterator over runs: what a round leaves is known only then -/
theorem it_each {X τ : Type} [Dp τ] (w0 : World) (O : List Nat) (v : Value) (l : List Int) (b yl : Nat) (Φ : Nat → X → Prop) (T : X → τ) (J : Nat → X → List As) (x0 : X) [h : RdOld w0 O v l]
    (hy : ∀ w1 O1 [RebT w0 O w1 O1] k (hk : k < (rns l).length) x u [Tru w1 O1 (T x)], Φ k x → YdX Try.prog yl [I (rns l)[k].1, I (rns l)[k].2] w1 O1 (.box b (.cells #[u] 22) :: J k x) (fun bb x' => bb = true ∧ Φ (k + 1) x') T (fun _ x' => .box b (.cells #[u] 22) :: J (k + 1) x'))
    (w : World) (hst : St w0 O (.box b (.cells #[v] 22) :: J 0 x0) w) (h0 : Φ 0 x0) [hT : Tru w0 O (T x0)] :
    Calls Try.prog 59 #[yv yl, .pointer (some ⟨b, 0, none⟩)] w (fun e w' => (∃ v, e = .returned v) ∧ ∃ x, Φ (rns l).length x ∧ St w0 O (J (rns l).length x) w' ∧ Dp.tru w' (foots (J (rns l).length x)) (T x)) := by
  have hlen := h.rd.len_le
  refine enterF (N := 33) (args := [yv yl, .pointer (some ⟨b, 0, none⟩)]) Try.func59 rfl rfl rfl hst ?_
  repeat' (first
  | refine G_nilC ?_
  | refine G_nilN ?_
  | refine G_nilH ?_
  | (refine G_nil ?_; try clear ri_; try clear ops_)
  | (refine V_op ?_; first | exact True.intro | intro v_ h_ w_ r_ t_ | intro (ops_ : Array Oper) ri_ | intro (b_ : Bool) hb_ | intro v_ h_ | intro (v_ : Value) | intro (b_ : Nat) | (refine ⟨fun hc => ?_, fun hc => ?_⟩ <;> try (exfalso; omega)) | refine ⟨?_, ?_⟩ | intro _ | skip)
  | (refine Is_DQ ?_; first | (apply DQ_k rfl rfl rfl; intro mm) | (apply DQ_x rfl rfl rfl; intro mm)))
  refine GC_loopE (X := Nat × Value × List Int × X) (fun w O y => (rns l = (rns l).take y.1 ++ rns y.2.2.1 ∧ y.1 ≤ (rns l).length ∧ y.2.2.1.length ≤ l.length ∧ Φ y.1 y.2.2.2) ∧ RdOld w O y.2.1 y.2.2.1 ∧ Tru w O (T y.2.2.2)) (fun y s => s) (fun y => .box b (.cells #[y.2.1] 22) :: J y.1 y.2.2.2) (fun y => y.2.2.1.length) (0, v, l, x0) (fun w => ⟨⟨rfl, Nat.zero_le _, Nat.le_refl _, h0⟩, inferInstance, inferInstance⟩)
    trivial ?_
  rintro ⟨k, u, r, x⟩ w1 hr1 ⟨⟨h1, h2, h3, hP⟩, h4, h5⟩
  simp only at h1 h2 h3 hP h4 h5 ⊢
  repeat' (first
  | refine G_nilC ?_
  | refine G_nilN ?_
  | refine G_nilH ?_
  | (refine G_nil ?_; try clear ri_; try clear ops_)
  | (refine V_op ?_; first | exact True.intro | intro v_ h_ w_ r_ t_ | intro (ops_ : Array Oper) ri_ | intro (b_ : Bool) hb_ | intro v_ h_ | intro (v_ : Value) | intro (b_ : Nat) | (refine ⟨fun hc => ?_, fun hc => ?_⟩ <;> try (exfalso; omega)) | refine ⟨?_, ?_⟩ | intro _ | skip)
  | (refine Is_DQ ?_; first | (apply DQ_k rfl rfl rfl; intro mm) | (apply DQ_x rfl rfl rfl; intro mm)))
  · have hr0 : 0 < r.length := by omega
    refine GC_loopM (X := Nat) (fun n => 0 < n ∧ n ≤ r.length ∧ ∀ j (hj : j < n) (hjr : j < r.length), r[j] = r[0]) (fun n s => (3, I n) :: s) (fun _ => .box b (.cells #[u] 22) :: J k x) (fun n => r.length - n) 1 ⟨by omega, by omega, fun j hj hjr => by simp [show j = 0 by omega]⟩ (by repeat (first | exact trivial | refine And.intro rfl ?_)) ?_
    rintro n ⟨hn0, hn, hnr⟩
    have hend : (∀ hnl : n < r.length, ¬ r[n] = r[0]) → (rns r = (r[0], n) :: rns (r.drop n)) := fun hne => by
      have e := lead_split hn (fun j hj => hnr j hj (by omega)) hn0
      have e3 := rns_lead (x := r[0]) (k := n) (r := r.drop n) hn0 (fun h => by
        rw [List.getElem_drop]
        simp only [List.length_drop] at h
        exact hne (by omega))
      rwa [← e] at e3
    have hget : rns r = (r[0], n) :: rns (r.drop n) → ∃ hk : k < (rns l).length, (rns l)[k] = (r[0], n) ∧ rns l = (rns l).take (k + 1) ++ rns (r.drop n) := fun e => by
      rw [e] at h1
      have hlk : k < (rns l).length := by
        have := congrArg List.length h1
        simp at this; omega
      have hg : (rns l)[k] = (r[0], n) := by
        have h5 : (rns l)[k]? = some (r[0], n) := by
          rw [h1, List.getElem?_append_right (by simp; omega)]
          simp [Nat.min_eq_left h2]
        rw [List.getElem?_eq_getElem hlk] at h5
        exact Option.some.inj h5
      refine ⟨hlk, hg, ?_⟩
      rw [List.take_succ_eq_append_getElem hlk, hg]
      simpa using h1
    by_cases hnl : n < r.length
    · haveI : Fct (n < r.length) := ⟨hnl⟩
      haveI : Fct (0 < r.length) := ⟨hr0⟩
      repeat' (first
  | refine G_nilC ?_
  | refine G_nilN ?_
  | refine G_nilH ?_
  | (refine G_nil ?_; try clear ri_; try clear ops_)
  | (refine V_op ?_; first | exact True.intro | intro v_ h_ w_ r_ t_ | intro (ops_ : Array Oper) ri_ | intro (b_ : Bool) hb_ | intro v_ h_ | intro (v_ : Value) | intro (b_ : Nat) | (refine ⟨fun hc => ?_, fun hc => ?_⟩ <;> try (exfalso; omega)) | refine ⟨?_, ?_⟩ | intro _ | skip)
  | (refine Is_DQ ?_; first | (apply DQ_k rfl rfl rfl; intro mm) | (apply DQ_x rfl rfl rfl; intro mm)))
      · exact At_roundS (n + 1) ⟨by omega, by omega, fun j hj hjr => by
          by_cases e : j = n
          · subst e; exact hc
          · exact hnr j (by omega) hjr⟩ (by omega) (by repeat (first | exact trivial | refine And.intro rfl ?_)) (by repeat (first | exact trivial | refine And.intro rfl ?_))
      · obtain ⟨hk, e1, e2⟩ := hget (hend fun _ => hc)
        have hyk := hy w1 (foots (.box b (.cells #[u] 22) :: J k x)) k hk x u hP
        rw [e1] at hyk
        refine G_yieldX rfl rfl rfl hyk ?_
        rintro _ x' w2 hr2 hT2 ⟨rfl, hP2⟩
        repeat' (first
  | refine G_nilC ?_
  | refine G_nilN ?_
  | refine G_nilH ?_
  | (refine G_nil ?_; try clear ri_; try clear ops_)
  | (refine V_op ?_; first | exact True.intro | intro v_ h_ w_ r_ t_ | intro (ops_ : Array Oper) ri_ | intro (b_ : Bool) hb_ | intro v_ h_ | intro (v_ : Value) | intro (b_ : Nat) | (refine ⟨fun hc => ?_, fun hc => ?_⟩ <;> try (exfalso; omega)) | refine ⟨?_, ?_⟩ | intro _ | skip)
  | (refine Is_DQ ?_; first | (apply DQ_k rfl rfl rfl; intro mm) | (apply DQ_x rfl rfl rfl; intro mm)))
        exact At_roundD (k + 1, cut Int u n r.length, r.drop n, x') (fun w3 => ⟨⟨e2, by simp only; omega, by simp only [List.length_drop]; omega, hP2⟩, inferInstance, inferInstance⟩) (by simp only [List.length_drop]; omega) (by repeat (first | exact trivial | refine And.intro rfl ?_)) (by repeat (first | exact trivial | refine And.intro rfl ?_))
    · repeat' (first
  | refine G_nilC ?_
  | refine G_nilN ?_
  | refine G_nilH ?_
  | (refine G_nil ?_; try clear ri_; try clear ops_)
  | (refine V_op ?_; first | exact True.intro | intro v_ h_ w_ r_ t_ | intro (ops_ : Array Oper) ri_ | intro (b_ : Bool) hb_ | intro v_ h_ | intro (v_ : Value) | intro (b_ : Nat) | (refine ⟨fun hc => ?_, fun hc => ?_⟩ <;> try (exfalso; omega)) | refine ⟨?_, ?_⟩ | intro _ | skip)
  | (refine Is_DQ ?_; first | (apply DQ_k rfl rfl rfl; intro mm) | (apply DQ_x rfl rfl rfl; intro mm)))
      obtain ⟨hk, e1, e2⟩ := hget (hend fun h => absurd h hnl)
      have hyk := hy w1 (foots (.box b (.cells #[u] 22) :: J k x)) k hk x u hP
      rw [e1] at hyk
      refine G_yieldX rfl rfl rfl hyk ?_
      rintro _ x' w2 hr2 hT2 ⟨rfl, hP2⟩
      repeat' (first
  | refine G_nilC ?_
  | refine G_nilN ?_
  | refine G_nilH ?_
  | (refine G_nil ?_; try clear ri_; try clear ops_)
  | (refine V_op ?_; first | exact True.intro | intro v_ h_ w_ r_ t_ | intro (ops_ : Array Oper) ri_ | intro (b_ : Bool) hb_ | intro v_ h_ | intro (v_ : Value) | intro (b_ : Nat) | (refine ⟨fun hc => ?_, fun hc => ?_⟩ <;> try (exfalso; omega)) | refine ⟨?_, ?_⟩ | intro _ | skip)
  | (refine Is_DQ ?_; first | (apply DQ_k rfl rfl rfl; intro mm) | (apply DQ_x rfl rfl rfl; intro mm)))
      exact At_roundD (k + 1, cut Int u n r.length, r.drop n, x') (fun w3 => ⟨⟨e2, by simp only; omega, by simp only [List.length_drop]; omega, hP2⟩, inferInstance, inferInstance⟩) (by simp only [List.length_drop]; omega) (by repeat (first | exact trivial | refine And.intro rfl ?_)) (by repeat (first | exact trivial | refine And.intro rfl ?_))
  · obtain rfl : r = [] := List.eq_nil_of_length_eq_zero (by omega)
    rw [rns_nil, List.append_nil] at h1
    have e : k = (rns l).length := by
      have := congrArg List.length h1
      simp at this; omega
    subst e
    refine ret_n rfl (by repeat (first | exact ResAll.nil | (apply ResAll.cons; first | exact .tmp rfl | exact .cell rfl rfl | exact .one rfl))) fun w' h' => ?_
    have h6 := h'.drop (m' := J (rns l).length x) (List.sublist_cons_self _ _)
    haveI := Reb.of h6
    exact ⟨⟨_, rfl⟩, x, hP, RebT.h _ _ h6, (inferInstance : Tru w' (foots (J (rns l).length x)) (T x)).h⟩
end Go.Proofs.Ytaegfjolemehaaa
