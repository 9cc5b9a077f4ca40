/- Runs: differences and sums. -/
import Derived.Test.YtaegfjolemehaaaK3
import Derived.Test.YtaegfjolemehaaaBpk
set_option linter.unusedVariables false
set_option linter.unusedSimpArgs false
set_option maxRecDepth 100000
set_option maxHeartbeats 4000000
namespace Go.Proofs.Ytaegfjolemehaaa
open Go.RowKit
attribute [local irreducible] G GC At wpL DR XPost CPost Cut GA GAR GAX GAt NxA GH GHR NxH

theorem lib_Clone (w : World) (v : Value) (l : List Int) [h : RdOld w [] v l] (hl : l.length ≤ 100000) : Calls Try.prog 33 #[v] w (Ret w [] (fun _ : Value => True) (fun r => r) (fun r => [row r 3 l])) := by
  have hlen := h.rd.len_le
  refine enter (N := 8) (args := [v]) Try.func33 rfl rfl rfl (St.refl w) ?_
  repeat' (first
  | refine G_nilC ?_
  | refine G_nilN ?_
  | refine G_nilH ?_
  | (refine G_nil ?_; try clear ri_; try clear ops_)
  | (refine V_opW ?_; first | exact True.intro | intro v_ h_ w_ r_ t_ | intro (ops_ : Array Oper) ri_ | intro (b_ : Bool) hb_ | intro v_ h_ | intro (v_ : Value) | intro (b_ : Nat) | (refine ⟨fun hc => ?_, fun hc => ?_⟩ <;> try (exfalso; omega)) | refine ⟨?_, ?_⟩ | intro _ | skip)
  | (refine Is_DQ ?_; first | (apply DQ_k rfl rfl rfl; intro mm) | (apply DQ_x rfl rfl rfl; intro mm)))
  · have := hb_ hc
    subst this
    refine ret_ rfl (by repeat (first | exact ResAll.nil | (apply ResAll.cons; first | exact .tmp rfl | exact .cell rfl rfl | exact .one rfl))) fun w' h' => ?_
    exact .mk (.slice none 0 0) trivial rfl h'
  · refine ret_ rfl (by repeat (first | exact ResAll.nil | (apply ResAll.cons; first | exact .tmp rfl | exact .cell rfl rfl | exact .one rfl))) fun w' h' => ?_
    exact .mk _ trivial rfl h'
instance {w0 : World} {O : List Nat} {m : List As} {v : Value} {l : List Int} [h : RdR w0 O m v l] : CallR Try.prog w0 O m 33 [v] (l.length ≤ 100000) (fun _ : Value => True) (fun r => r) (fun r => row r 3 l :: m) :=
  .new1 (M := fun r => row r _ l) fun hs w hw => @lib_Clone w v l (RdOld.of (h.rd w hw)) hs

/-- the differences: what stands at i -/
def difA (l : List Int) (i : Nat) : Int := if i = 0 then l.getD 0 0 else wsub (l.getD i 0) (l.getD (i - 1) 0)
def difL (l : List Int) : List Int := (List.range l.length).map (difA l)
def sumGo (a : Int) : List Int → List Int
  | [] => []
  | x :: r => wadd a x :: sumGo (wadd a x) r
def sumL : List Int → List Int
  | [] => []
  | x :: r => x :: sumGo x r
@[simp] theorem difL_length (l : List Int) : (difL l).length = l.length := by simp [difL]
@[simp] theorem sumGo_length : ∀ (a : Int) (l : List Int), (sumGo a l).length = l.length
  | _, [] => rfl
  | a, x :: r => by simp [sumGo, sumGo_length]
@[simp] theorem sumL_length (l : List Int) : (sumL l).length = l.length := by cases l <;> simp [sumL]
theorem difA_at {l : List Int} {i : Nat} (h0 : ¬ i = 0) (h : i < l.length) : difA l i = wsub l[i] (l[i - 1]'(by omega)) := by
  have h1 : i - 1 < l.length := by omega
  rw [difA, if_neg h0, List.getD_eq_getElem?_getD, List.getD_eq_getElem?_getD, List.getElem?_eq_getElem h, List.getElem?_eq_getElem h1]
  rfl
theorem difA_zero {l : List Int} (h : 0 < l.length) : difA l 0 = l[0] := by
  rw [difA, if_pos rfl, List.getD_eq_getElem?_getD, List.getElem?_eq_getElem h]
  rfl

theorem ref_Differences (w : World) (v : Value) (l : List Int) [h : RdOld w [] v l] (hl : l.length ≤ 100000) : Calls Try.prog 19 #[v] w (Ret w [] (fun _ : Value => True) (fun r => r) (fun r => [row r 3 (difL l)])) := by
  have hlen := h.rd.len_le
  refine enter (N := 34) (args := [v]) Try.func19 rfl rfl rfl (St.refl w) ?_
  repeat' (first
  | refine G_nilC ?_
  | refine G_nilN ?_
  | refine G_nilH ?_
  | (refine G_nil ?_; try clear ri_; try clear ops_)
  | (refine V_opW ?_; first | exact True.intro | intro v_ h_ w_ r_ t_ | intro (ops_ : Array Oper) ri_ | intro (b_ : Bool) hb_ | intro v_ h_ | intro (v_ : Value) | intro (b_ : Nat) | (refine ⟨fun hc => ?_, fun hc => ?_⟩ <;> try (exfalso; omega)) | refine ⟨?_, ?_⟩ | intro _ | skip)
  | (refine Is_DQ ?_; first | (apply DQ_k rfl rfl rfl; intro mm) | (apply DQ_x rfl rfl rfl; intro mm)))
  refine GC_loopS (X := Nat × Value) (fun y => y.1 ≤ l.length) (fun y s => (4, I y.1) :: (3, y.2) :: s) (fun y q => row y.2 3 ((List.range y.1).map (difA l)) :: q) (fun y => l.length - y.1) (0, _) (Nat.zero_le _) (by repeat (first | exact trivial | refine And.intro rfl ?_)) ?_
    (hm0 := by simp only [List.range_zero, List.map_nil]; exact rfl)
  rintro ⟨i, q⟩ hi
  simp only at hi ⊢
  have hrl : ((List.range i).map (difA l)).length = i := by simp
  repeat' (first
  | refine G_nilC ?_
  | refine G_nilN ?_
  | refine G_nilH ?_
  | (refine G_nil ?_; try clear ri_; try clear ops_)
  | (refine V_opW ?_; first | exact True.intro | intro v_ h_ w_ r_ t_ | intro (ops_ : Array Oper) ri_ | intro (b_ : Bool) hb_ | intro v_ h_ | intro (v_ : Value) | intro (b_ : Nat) | (refine ⟨fun hc => ?_, fun hc => ?_⟩ <;> try (exfalso; omega)) | refine ⟨?_, ?_⟩ | intro _ | skip)
  | (refine Is_DQ ?_; first | (apply DQ_k rfl rfl rfl; intro mm) | (apply DQ_x rfl rfl rfl; intro mm)))
  · have e : (List.range i).map (difA l) ++ [l[0]] = (List.range (i + 1)).map (difA l) := by
      have h0 : i = 0 := by omega
      subst h0
      simp [List.range_succ, difA_zero (show 0 < l.length by omega)]
    rw [e]
    exact At_roundS (i + 1, _) (by simp only; omega) (by simp only; omega) (by repeat (first | exact trivial | refine And.intro rfl ?_)) (by repeat (first | exact trivial | refine And.intro rfl ?_))
  · have hil : i < l.length := by omega
    have e : (List.range i).map (difA l) ++ [wsub l[i] l[i - 1]] = (List.range (i + 1)).map (difA l) := by
      rw [List.range_succ, List.map_append, List.map_singleton, difA_at (by omega) hil]
    rw [e]
    exact At_roundS (i + 1, _) (by simp only; omega) (by simp only; omega) (by repeat (first | exact trivial | refine And.intro rfl ?_)) (by repeat (first | exact trivial | refine And.intro rfl ?_))
  · obtain rfl : i = l.length := by omega
    rw [show (List.range l.length).map (difA l) = difL l from rfl]
    refine ret_ rfl (by repeat (first | exact ResAll.nil | (apply ResAll.cons; first | exact .tmp rfl | exact .cell rfl rfl | exact .one rfl))) fun w' h' => ?_
    exact .mk _ trivial rfl h'
/-- the differences from the y-th element on -/
def difY (l : List Int) (y : Nat) : List Int := (List.range l.length).map fun j => if j < y then l.getD j 0 else difA l j
theorem difY_length (l : List Int) (y : Nat) : (difY l y).length = l.length := by simp [difY]
theorem difY_all (l : List Int) : difY l l.length = l := by
  apply List.ext_getElem
  · exact difY_length _ _
  · intro j h1 h2
    simp [difY, h2]
theorem difY_at {l : List Int} {y : Nat} (h : 1 < y) (hy : y ≤ l.length) (hb : y - 1 < (difY l y).length) : (difY l y)[y - 1]'hb = l[y - 1] := by
  have h2 : y - 1 < l.length := by omega
  simp only [difY, List.getElem_map, List.getElem_range]
  rw [if_pos (by omega), List.getD_eq_getElem?_getD, List.getElem?_eq_getElem h2]
  rfl
theorem difY_set {l : List Int} {y : Nat} (h : 1 < y) (hy : y ≤ l.length) : (difY l y).set (y - 1) (wsub (l[y - 1]'(by omega)) (l[y - 1 - 1]'(by omega))) = difY l (y - 1) := by
  apply List.ext_getElem
  · simp [difY_length]
  · intro j h1 h2
    rw [difY_length] at h2
    rw [List.getElem_set]
    split
    · rename_i e
      subst e
      simp only [difY, List.getElem_map, List.getElem_range]
      rw [if_neg (by omega), difA_at (by omega) h2]
    · simp only [difY, List.getElem_map, List.getElem_range]
      by_cases h3 : j < y
      · rw [if_pos h3, if_pos (by omega)]
      · rw [if_neg h3, if_neg (by omega)]
theorem difY_end {l : List Int} {y : Nat} (h : y ≤ 1) : difY l y = difL l := by
  refine List.map_congr_left fun j hj => ?_
  by_cases h3 : j < y
  · have : j = 0 := by omega
    subst this
    simp [difA, h3]
  · rw [if_neg h3]
theorem run_Differences (w : World) (v : Value) (l : List Int) [h : RdOld w [] v l] (hl : l.length ≤ 100000) : Calls Try.prog 18 #[v] w (Ret w [] (fun _ : Value => True) (fun r => r) (fun r => [row r 3 (difL l)])) := by
  have hlen := h.rd.len_le
  refine enter (N := 26) (args := [v]) Try.func18 rfl rfl rfl (St.refl w) ?_
  repeat' (first
  | refine G_nilC ?_
  | refine G_nilN ?_
  | refine G_nilH ?_
  | (refine G_nil ?_; try clear ri_; try clear ops_)
  | (refine V_opW ?_; first | exact True.intro | intro v_ h_ w_ r_ t_ | intro (ops_ : Array Oper) ri_ | intro (b_ : Bool) hb_ | intro v_ h_ | intro (v_ : Value) | intro (b_ : Nat) | (refine ⟨fun hc => ?_, fun hc => ?_⟩ <;> try (exfalso; omega)) | refine ⟨?_, ?_⟩ | intro _ | skip)
  | (refine Is_DQ ?_; first | (apply DQ_k rfl rfl rfl; intro mm) | (apply DQ_x rfl rfl rfl; intro mm)))
  refine GC_loopS (X := Nat) (fun y => y ≤ l.length) (fun y s => (4, I ((y : Int) - 1)) :: s) (fun y m => row v_ 3 (difY l y) :: m) (fun y => y) l.length (Nat.le_refl _) (by repeat (first | exact trivial | refine And.intro rfl ?_)) ?_ (hm0 := by simp only [difY_all]; exact rfl)
  intro y hy
  have hyl := difY_length l y
  repeat' (first
  | refine G_nilC ?_
  | refine G_nilN ?_
  | refine G_nilH ?_
  | (refine G_nil ?_; try clear ri_; try clear ops_)
  | (refine V_opW ?_; first | exact True.intro | intro v_ h_ w_ r_ t_ | intro (ops_ : Array Oper) ri_ | intro (b_ : Bool) hb_ | intro v_ h_ | intro (v_ : Value) | intro (b_ : Nat) | (refine ⟨fun hc => ?_, fun hc => ?_⟩ <;> try (exfalso; omega)) | refine ⟨?_, ?_⟩ | intro _ | skip)
  | (refine Is_DQ ?_; first | (apply DQ_k rfl rfl rfl; intro mm) | (apply DQ_x rfl rfl rfl; intro mm)))
  · rw [show (y : Int) - 1 - 1 = ((y - 1 : Nat) : Int) - 1 by omega]
    have e : (difY l y).set (y - 1) (wsub ((difY l y)[y - 1]'(by omega)) (l[y - 1 - 1]'(by omega))) = difY l (y - 1) := by
      rw [difY_at (by omega) hy (by omega)]; exact difY_set (by omega) hy
    rw [e]
    exact At_roundS (y - 1) (by omega) (by omega) (by repeat (first | exact trivial | refine And.intro rfl ?_)) (by repeat (first | exact trivial | refine And.intro rfl ?_))
  · rw [difY_end (by omega)]
    refine ret_ rfl (by repeat (first | exact ResAll.nil | (apply ResAll.cons; first | exact .tmp rfl | exact .cell rfl rfl | exact .one rfl))) fun w' h' => ?_
    exact .mk _ trivial rfl h'

theorem sumGo_snoc : ∀ (a : Int) (l : List Int) (x : Int), sumGo a (l ++ [x]) = sumGo a l ++ [wadd (l.foldl wadd a) x]
  | _, [], _ => rfl
  | a, y :: r, x => by
    simp only [sumGo, List.cons_append, sumGo_snoc, List.foldl_cons]
theorem sumGo_zero {l : List Int} (h : okI l) : sumGo 0 l = sumL l := by
  cases l with
  | nil => rfl
  | cons x r =>
    have hx := h x (by simp)
    simp only [sumGo, sumL]
    rw [wadd_in (by omega), Int.zero_add]
theorem sumGo_next : ∀ (a : Int) (l : List Int) (j : Nat) (h : j < l.length), (sumGo a l)[j]'(by simpa using h) = wadd ((a :: sumGo a l)[j]'(by simp; omega)) l[j]
  | a, x :: r, 0, _ => by simp [sumGo]
  | a, x :: r, j + 1, h => by
    simp only [sumGo, List.getElem_cons_succ]
    exact sumGo_next _ r j (by simpa using h)
theorem sumL_next {l : List Int} {j : Nat} (h0 : 0 < j) (h : j < l.length) : (sumL l)[j]'(by simpa using h) = wadd ((sumL l)[j - 1]'(by simp; omega)) l[j] := by
  cases l with
  | nil => simp at h
  | cons x r =>
    obtain ⟨k, rfl⟩ : ∃ k, j = k + 1 := ⟨j - 1, by omega⟩
    simp only [sumL, List.getElem_cons_succ, Nat.add_sub_cancel]
    exact sumGo_next x r k (by simpa using h)

theorem ref_Sums (w : World) (v : Value) (l : List Int) [h : RdOld w [] v l] (hk : okI l) (hl : l.length ≤ 100000) : Calls Try.prog 21 #[v] w (Ret w [] (fun _ : Value => True) (fun r => r) (fun r => [row r 3 (sumL l)])) := by
  have hlen := h.rd.len_le
  refine enter (N := 24) (args := [v]) Try.func21 rfl rfl rfl (St.refl w) ?_
  repeat' (first
  | refine G_nilC ?_
  | refine G_nilN ?_
  | refine G_nilH ?_
  | (refine G_nil ?_; try clear ri_; try clear ops_)
  | (refine V_opW ?_; first | exact True.intro | intro v_ h_ w_ r_ t_ | intro (ops_ : Array Oper) ri_ | intro (b_ : Bool) hb_ | intro v_ h_ | intro (v_ : Value) | intro (b_ : Nat) | (refine ⟨fun hc => ?_, fun hc => ?_⟩ <;> try (exfalso; omega)) | refine ⟨?_, ?_⟩ | intro _ | skip)
  | (refine Is_DQ ?_; first | (apply DQ_k rfl rfl rfl; intro mm) | (apply DQ_x rfl rfl rfl; intro mm)))
  refine GC_loopS (X := Nat × Value) (fun y => y.1 ≤ l.length) (fun y s => (5, I y.1) :: (4, I ((l.take y.1).foldl wadd 0)) :: (3, y.2) :: s) (fun y q => row y.2 3 (sumGo 0 (l.take y.1)) :: q) (fun y => l.length - y.1) (0, _) (Nat.zero_le _) (by repeat (first | exact trivial | refine And.intro rfl ?_)) ?_
    (hm0 := by simp only [List.take_zero, sumGo]; exact rfl)
  rintro ⟨i, q⟩ hi
  simp only at hi ⊢
  have hrl : (sumGo 0 (l.take i)).length = i := by simp; omega
  generalize hz : (l.take i).foldl wadd 0 = z
  repeat' (first
  | refine G_nilC ?_
  | refine G_nilN ?_
  | refine G_nilH ?_
  | (refine G_nil ?_; try clear ri_; try clear ops_)
  | (refine V_opW ?_; first | exact True.intro | intro v_ h_ w_ r_ t_ | intro (ops_ : Array Oper) ri_ | intro (b_ : Bool) hb_ | intro v_ h_ | intro (v_ : Value) | intro (b_ : Nat) | (refine ⟨fun hc => ?_, fun hc => ?_⟩ <;> try (exfalso; omega)) | refine ⟨?_, ?_⟩ | intro _ | skip)
  | (refine Is_DQ ?_; first | (apply DQ_k rfl rfl rfl; intro mm) | (apply DQ_x rfl rfl rfl; intro mm)))
  · have hil : i < l.length := by omega
    have e : sumGo 0 (l.take i) ++ [wadd z l[i]] = sumGo 0 (l.take (i + 1)) := by
      rw [List.take_succ_eq_append_getElem hil, sumGo_snoc, hz]
    have e2 : wadd z l[i] = (l.take (i + 1)).foldl wadd 0 := by
      rw [List.take_succ_eq_append_getElem hil, List.foldl_append, hz]; rfl
    rw [e]
    exact At_roundS (i + 1, _) (by simp only; omega) (by simp only; omega) ⟨rfl, by rw [← e2]; rfl, rfl, trivial⟩ (by repeat (first | exact trivial | refine And.intro rfl ?_))
  · rw [show sumGo 0 (l.take i) = sumL l by rw [List.take_of_length_le (by omega), sumGo_zero hk]]
    refine ret_ rfl (by repeat (first | exact ResAll.nil | (apply ResAll.cons; first | exact .tmp rfl | exact .cell rfl rfl | exact .one rfl))) fun w' h' => ?_
    exact .mk _ trivial rfl h'

/-- the sums up to the y-th element, the rest as it was -/
def sumY (l : List Int) (y : Nat) : List Int := (sumL l).take y ++ l.drop y
theorem sumY_length {l : List Int} {y : Nat} (h : y ≤ l.length) : (sumY l y).length = l.length := by simp [sumY]; omega
theorem sumY_one (l : List Int) : sumY l 1 = l := by
  cases l with
  | nil => rfl
  | cons x r => simp [sumY, sumL]
theorem sumY_lo {l : List Int} {y : Nat} (h0 : 0 < y) (hy : y ≤ l.length) (hb : y - 1 < (sumY l y).length) : (sumY l y)[y - 1]'hb = (sumL l)[y - 1]'(by simp; omega) := by
  simp only [sumY]
  rw [List.getElem_append_left (by simp; omega), List.getElem_take]
theorem sumY_hi {l : List Int} {y : Nat} (hy : y < l.length) (hb : y < (sumY l y).length) : (sumY l y)[y]'hb = l[y] := by
  simp only [sumY]
  rw [List.getElem_append_right (by simp; omega)]
  simp only [List.length_take, sumL_length, List.getElem_drop]
  congr 1; omega
theorem sumY_set {l : List Int} {y : Nat} (h0 : 0 < y) (hy : y < l.length) : (sumY l y).set y (wadd l[y] ((sumL l)[y - 1]'(by simp; omega))) = sumY l (y + 1) := by
  have h1 : y < (sumL l).length := by simpa using hy
  have e1 : l.drop y = l[y] :: l.drop (y + 1) := List.drop_eq_getElem_cons hy
  have e2 : ((sumL l).take y).length = y := by simp; omega
  unfold sumY
  rw [e1, List.set_append, if_neg (by omega), e2, Nat.sub_self, List.set_cons_zero, List.take_succ_eq_append_getElem h1, sumL_next h0 hy, wadd_comm]
  simp

theorem run_Sums (w : World) (v : Value) (l : List Int) [h : RdOld w [] v l] (hl : l.length ≤ 100000) : Calls Try.prog 20 #[v] w (Ret w [] (fun _ : Value => True) (fun r => r) (fun r => [row r 3 (sumL l)])) := by
  have hlen := h.rd.len_le
  refine enter (N := 25) (args := [v]) Try.func20 rfl rfl rfl (St.refl w) ?_
  repeat' (first
  | refine G_nilC ?_
  | refine G_nilN ?_
  | refine G_nilH ?_
  | (refine G_nil ?_; try clear ri_; try clear ops_)
  | (refine V_opW ?_; first | exact True.intro | intro v_ h_ w_ r_ t_ | intro (ops_ : Array Oper) ri_ | intro (b_ : Bool) hb_ | intro v_ h_ | intro (v_ : Value) | intro (b_ : Nat) | (refine ⟨fun hc => ?_, fun hc => ?_⟩ <;> try (exfalso; omega)) | refine ⟨?_, ?_⟩ | intro _ | skip)
  | (refine Is_DQ ?_; first | (apply DQ_k rfl rfl rfl; intro mm) | (apply DQ_x rfl rfl rfl; intro mm)))
  refine GC_loopS (X := Nat) (fun y => 0 < y ∧ (y ≤ l.length ∨ y = 1)) (fun y s => (4, I y) :: s) (fun y m => row v_ 3 (sumY l y) :: m) (fun y => l.length - y) 1 ⟨by omega, .inr rfl⟩ (by repeat (first | exact trivial | refine And.intro rfl ?_)) ?_ (hm0 := by simp only [sumY_one]; exact rfl)
  rintro y ⟨hy0, hy⟩
  by_cases hy1 : y ≤ l.length
  · have hyl := sumY_length hy1
    repeat' (first
  | refine G_nilC ?_
  | refine G_nilN ?_
  | refine G_nilH ?_
  | (refine G_nil ?_; try clear ri_; try clear ops_)
  | (refine V_opW ?_; first | exact True.intro | intro v_ h_ w_ r_ t_ | intro (ops_ : Array Oper) ri_ | intro (b_ : Bool) hb_ | intro v_ h_ | intro (v_ : Value) | intro (b_ : Nat) | (refine ⟨fun hc => ?_, fun hc => ?_⟩ <;> try (exfalso; omega)) | refine ⟨?_, ?_⟩ | intro _ | skip)
  | (refine Is_DQ ?_; first | (apply DQ_k rfl rfl rfl; intro mm) | (apply DQ_x rfl rfl rfl; intro mm)))
    · have hlt : y < l.length := by omega
      have e : (sumY l y).set y (wadd ((sumY l y)[y]'(by omega)) ((sumY l y)[y - 1]'(by omega))) = sumY l (y + 1) := by
        rw [sumY_lo hy0 hy1 (by omega), sumY_hi hlt (by omega)]; exact sumY_set hy0 hlt
      rw [e]
      exact At_roundS (y + 1) ⟨by omega, .inl (by omega)⟩ (by omega) (by repeat (first | exact trivial | refine And.intro rfl ?_)) (by repeat (first | exact trivial | refine And.intro rfl ?_))
    · rw [show sumY l y = sumL l by unfold sumY; rw [List.take_of_length_le (by simp; omega), List.drop_of_length_le (by omega)]; simp]
      refine ret_ rfl (by repeat (first | exact ResAll.nil | (apply ResAll.cons; first | exact .tmp rfl | exact .cell rfl rfl | exact .one rfl))) fun w' h' => ?_
      exact .mk _ trivial rfl h'
  · have h0 : l = [] := List.eq_nil_of_length_eq_zero (by omega)
    obtain rfl : y = 1 := by omega
    subst h0
    rw [sumY_one]
    repeat' (first
  | refine G_nilC ?_
  | refine G_nilN ?_
  | refine G_nilH ?_
  | (refine G_nil ?_; try clear ri_; try clear ops_)
  | (refine V_opW ?_; first | exact True.intro | intro v_ h_ w_ r_ t_ | intro (ops_ : Array Oper) ri_ | intro (b_ : Bool) hb_ | intro v_ h_ | intro (v_ : Value) | intro (b_ : Nat) | (refine ⟨fun hc => ?_, fun hc => ?_⟩ <;> try (exfalso; omega)) | refine ⟨?_, ?_⟩ | intro _ | skip)
  | (refine Is_DQ ?_; first | (apply DQ_k rfl rfl rfl; intro mm) | (apply DQ_x rfl rfl rfl; intro mm)))
    refine ret_ rfl (by repeat (first | exact ResAll.nil | (apply ResAll.cons; first | exact .tmp rfl | exact .cell rfl rfl | exact .one rfl))) fun w' h' => ?_
    exact .mk (M := fun r => [row r 3 ([] : List Int)]) _ trivial rfl h'
section
variable {w0 : World} {O : List Nat} {m : List As} {v : Value} {l : List Int}
instance [h : RdR w0 O m v l] : CallR Try.prog w0 O m 19 [v] (l.length ≤ 100000) (fun _ : Value => True) (fun r => r) (fun r => row r 3 (difL l) :: m) := .new1 (M := fun r => row r _ (difL l)) fun hs w hw => @ref_Differences w v l (RdOld.of (h.rd w hw)) hs
instance [h : RdR w0 O m v l] : CallR Try.prog w0 O m 18 [v] (l.length ≤ 100000) (fun _ : Value => True) (fun r => r) (fun r => row r 3 (difL l) :: m) := .new1 (M := fun r => row r _ (difL l)) fun hs w hw => @run_Differences w v l (RdOld.of (h.rd w hw)) hs
instance [h : RdR w0 O m v l] : CallR Try.prog w0 O m 21 [v] (okI l ∧ l.length ≤ 100000) (fun _ : Value => True) (fun r => r) (fun r => row r 3 (sumL l) :: m) := .new1 (M := fun r => row r _ (sumL l)) fun hs w hw => @ref_Sums w v l (RdOld.of (h.rd w hw)) hs.1 hs.2
instance [h : RdR w0 O m v l] : CallR Try.prog w0 O m 20 [v] (l.length ≤ 100000) (fun _ : Value => True) (fun r => r) (fun r => row r 3 (sumL l) :: m) := .new1 (M := fun r => row r _ (sumL l)) fun hs w hw => @run_Sums w v l (RdOld.of (h.rd w hw)) hs
end
end Go.Proofs.Ytaegfjolemehaaa
