/- Runs: the plain laws. -/
import Derived.Test.YtaegfjolemehaaaRnl
set_option linter.unusedVariables false
set_option linter.unusedSimpArgs false
set_option maxRecDepth 100000
set_option maxHeartbeats 4000000
namespace Go.Proofs.Ytaegfjolemehaaa
open Go.RowKit
attribute [local irreducible] G GC At wpL DR XPost CPost Cut GA GAR GAX GAt NxA GH GHR NxH

/-! ### Expanding inverts taking the runs -/
def repF (p : Int × Nat) : List Int := List.replicate p.2 p.1
theorem rstep_flat (a : List (Int × Nat)) (x : Int) : (rstep a x).reverse.flatMap repF = a.reverse.flatMap repF ++ [x] := by
  unfold rstep
  split
  · simp [repF]
  · rename_i v n t
    split
    · rename_i e; subst e
      simp [repF, List.replicate_succ']
    · simp [repF]
theorem foldl_flat : ∀ (l : List Int) (a : List (Int × Nat)), (l.foldl rstep a).reverse.flatMap repF = a.reverse.flatMap repF ++ l
  | [], a => by simp
  | x :: r, a => by rw [List.foldl_cons, foldl_flat r, rstep_flat]; simp
theorem rns_flat (l : List Int) : (rns l).flatMap repF = l := by
  have := foldl_flat l []
  simpa [rns, rrev] using this
def adj : List (Int × Nat) → Prop
  | [] => True
  | [_] => True
  | p :: q :: t => ¬ p.1 = q.1 ∧ adj (q :: t)
theorem adj_rstep {a : List (Int × Nat)} (h : adj a) (x : Int) : adj (rstep a x) := by
  unfold rstep
  split
  · trivial
  · rename_i v n t
    split
    · cases t with
      | nil => trivial
      | cons q t => exact h
    · rename_i e
      exact ⟨fun e' => e e'.symm, h⟩
theorem adj_fold : ∀ (l : List Int) (a : List (Int × Nat)), adj a → adj (l.foldl rstep a)
  | [], a, h => h
  | x :: r, a, h => adj_fold r _ (adj_rstep h x)
theorem adj_at : ∀ {a : List (Int × Nat)}, adj a → ∀ i (h : i + 1 < a.length), ¬ a[i].1 = a[i + 1].1
  | p :: q :: t, h, 0, _ => h.1
  | p :: q :: t, h, i + 1, hi => by
    have := adj_at (a := q :: t) h.2 i (by simpa using hi)
    simpa using this
theorem rvs_ne {l : List Int} {i : Nat} (h0 : 0 < i) (h : i < (rvs l).length) : ¬ (rvs l)[i] = (rvs l)[i - 1] := by
  have ha : adj (rrev l) := adj_fold l [] trivial
  have hlen : (rns l).length = (rrev l).length := by simp [rns]
  rw [rvs_length, hlen] at h
  simp only [rvs, rns, List.getElem_map, List.getElem_reverse]
  have := adj_at ha ((rrev l).length - 1 - i) (by omega)
  intro e
  apply this
  rw [e]
  congr 2; omega
theorem expGo_flat : ∀ (R : List (Int × Nat)) (out : List Int), out.length + (R.flatMap repF).length ≤ 4096 → expGo out (R.map fun p => (p.1, (p.2 : Int))) = .ok (out ++ R.flatMap repF)
  | [], out, _ => by simp [expGo]
  | p :: R, out, h => by
    simp only [List.flatMap_cons, List.length_append] at h
    have hp : (repF p).length = p.2 := by simp [repF]
    rw [List.map_cons, expGo, if_neg (by omega), Int.toNat_natCast]
    rw [show List.replicate p.2 p.1 = repF p from rfl, expGo_flat R (out ++ repF p) (by simp only [List.length_append]; omega)]
    simp
theorem zip_rns (l : List Int) : (rvs l).zip (rls l) = (rns l).map fun p => (p.1, (p.2 : Int)) := by
  unfold rvs rls
  induction rns l with
  | nil => rfl
  | cons p t ih => simp [ih]
theorem exp_runs {l : List Int} (hl : l.length ≤ 4096) : expE (rvs l) (rls l) = .ok l := by
  have hn : ∀ i, i < (rls l).length → ¬ expBad (rvs l) (rls l) i := fun i hi => by
    have hi2 : i < (rvs l).length := by rw [rvs_length]; rwa [rls_length] at hi
    refine (not_bad hi hi2).2 ⟨?_, fun h0 => rvs_ne h0 hi2⟩
    have := rls_in (List.getElem_mem hi)
    omega
  rw [expE, if_neg (by simp), if_neg (fun ⟨i, h1, h2⟩ => hn i h1 h2), zip_rns, expGo_flat _ _ (by rw [rns_flat]; simpa using hl), rns_flat, List.nil_append]
theorem rls_sum (l : List Int) : (rls l).foldl (· + ·) 0 = (l.length : Int) := by
  have h := congrArg List.length (rns_flat l)
  rw [← h, rls]
  have key : ∀ (R : List (Int × Nat)) (z : Int), (R.map fun p => (p.2 : Int)).foldl (· + ·) z = z + ((R.flatMap repF).length : Int) := by
    intro R
    induction R with
    | nil => intro z; simp
    | cons p t ih => intro z; rw [List.map_cons, List.foldl_cons, ih]; simp [repF]; omega
  rw [key]; simp

/-! ### Sums invert differences -/
theorem sum_dif {l : List Int} (h : okI l) : sumL (difL l) = l := by
  apply List.ext_getElem
  · simp
  · intro j
    induction j with
    | zero =>
      intro h1 h2
      cases l with
      | nil => simp at h2
      | cons x r =>
        have : (difL (x :: r)) = x :: (difL (x :: r)).drop 1 := by
          rw [← List.drop_zero (l := difL (x :: r))]
          rw [List.drop_eq_getElem_cons (by simp)]
          simp [difL, difA]
        rw [List.getElem_zero, List.getElem_zero]
        rw [← Option.some_inj, ← List.head?_eq_some_head, ← List.head?_eq_some_head, this]
        rfl
    | succ j ih =>
      intro h1 h2
      rw [sumL_next (by omega) (by simpa using h1)]
      simp only [Nat.add_sub_cancel]
      rw [ih (by simp at h1 ⊢; omega) (by omega)]
      have e : (difL l)[j + 1]'(by simpa using h1) = wsub l[j + 1] l[j] := by
        simp only [difL, List.getElem_map, List.getElem_range]
        rw [difA_at (by omega) h2]
        rfl
      rw [e, wadd_comm]
      exact wadd_wsub (h _ (List.getElem_mem h2))
theorem dif_sum {l : List Int} (h : okI l) : difL (sumL l) = l := by
  apply List.ext_getElem
  · simp
  · intro j h1 h2
    simp only [difL, List.getElem_map, List.getElem_range]
    by_cases h0 : j = 0
    · subst h0
      rw [difA_zero (by simpa using h2)]
      cases l with
      | nil => simp at h2
      | cons x r => rfl
    · rw [difA_at h0 (by simpa using h2), sumL_next (by omega) h2, wadd_comm]
      exact wsub_wadd (h _ (List.getElem_mem h2))
theorem wsub_shift (a b n : Int) : wsub (wadd a n) (wadd b n) = wsub a b := by unfold wsub wadd; simp only [IntKind.wrap_i64]; omega
theorem dif_shift (l : List Int) (n : Int) : (difL (l.map (wadd · n))).drop 1 = (difL l).drop 1 := by
  apply List.ext_getElem
  · simp
  · intro j h1 h2
    simp only [List.length_drop, difL_length, List.length_map] at h1 h2
    simp only [List.getElem_drop, difL, List.getElem_map, List.getElem_range]
    rw [difA_at (by omega) (by simp; omega), difA_at (by omega) (by omega)]
    simp only [List.getElem_map]
    exact wsub_shift _ _ _
/-- how many elements the first runs have -/
def rsum (l : List Int) (i : Nat) : Nat := (((rns l).take i).flatMap repF).length
theorem rsum_succ {l : List Int} {i : Nat} (h : i < (rls l).length) : ((rsum l (i + 1) : Nat) : Int) = rsum l i + (rls l)[i] ∧ rsum l (i + 1) ≤ l.length := by
  have h2 : i < (rns l).length := by rwa [rls_length] at h
  constructor
  · rw [rsum, rsum, List.take_succ_eq_append_getElem h2]
    rw [List.flatMap_append, List.length_append]
    simp only [List.flatMap_cons, List.flatMap_nil, List.append_nil, repF, List.length_replicate, rls, List.getElem_map]
    omega
  · have e := congrArg List.length (rns_flat l)
    conv at e => lhs; rw [← List.take_append_drop (i + 1) (rns l)]
    rw [List.flatMap_append, List.length_append] at e
    unfold rsum; omega
theorem rsum_all (l : List Int) : rsum l (rvs l).length = l.length := by
  rw [rsum, rvs_length, List.take_length, rns_flat]
end Go.Proofs.Ytaegfjolemehaaa
