/- Runs: kinds and encodings in the program. -/
import Derived.Test.YtaegfjolemehaaaRnf
set_option linter.unusedVariables false
set_option linter.unusedSimpArgs false
set_option maxRecDepth 100000
set_option maxHeartbeats 4000000
namespace Go.Proofs.Ytaegfjolemehaaa
open Go.RowKit
attribute [local irreducible] G GC At wpL DR XPost CPost Cut GA GAR GAX GAt NxA GH GHR NxH

/-- the bytes that lists take -/
def sumP (L : List (List Int)) : Nat := (L.flatMap packB).length
theorem sumP_succ {L : List (Sl Int)} {j : Nat} (h : j < L.length) : sumP ((L.take (j + 1)).map (·.l)) = sumP ((L.take j).map (·.l)) + (packB L[j].l).length := by
  rw [List.take_succ_eq_append_getElem h, List.map_append]
  simp only [sumP, List.flatMap_append, List.length_append, List.map_cons, List.map_nil, List.flatMap_cons, List.flatMap_nil, List.append_nil]
theorem sumP_le : ∀ (L : List (List Int)), (∀ x ∈ L, x.length ≤ 4096) → sumP L ≤ 32789 * L.length
  | [], _ => by simp [sumP]
  | a :: r, h => by
    have h1 := (packB_le (h a (by simp))).1
    have h2 := sumP_le r (fun x hx => h x (by simp [hx]))
    simp only [sumP, List.flatMap_cons, List.length_append, List.length_cons] at h2 ⊢
    omega
theorem sumP_take {L : List (Sl Int)} (h : ∀ x ∈ L, x.l.length ≤ 4096) (hL : L.length ≤ 2) (j : Nat) : sumP ((L.take j).map (·.l)) ≤ 65578 := by
  have := sumP_le ((L.take j).map (·.l)) (fun x hx => by
    obtain ⟨y, hy, rfl⟩ := List.mem_map.1 hx
    exact h y (List.mem_of_mem_take hy))
  simp only [List.length_map, List.length_take] at this
  omega
theorem run_Kind (w : World) (v : Value) (l : List Int) [h : RdOld w [] v l] (hi : okI l) (hl : l.length ≤ 4096) : Calls Try.prog 22 #[v] w (Is w (I (kd l))) := by
  haveI := h.isOne
  have hok : ∀ k (L : List (Sl Int)), L.map (·.l) = lst k l → ∀ x ∈ L, okI x.l ∧ x.l.length ≤ 4096 := fun k L hL x hx => lst_ok hi hl x.l (by rw [← hL]; exact List.mem_map_of_mem hx)
  have hcount : ∀ k (L : List (Sl Int)), L.map (·.l) = lst k l → L.length ≤ 2 := fun k L hL => by
    have := congrArg List.length hL
    rw [List.length_map] at this
    rw [this]; unfold lst lstA; split <;> split <;> simp
  have hf0 := fB_le (k := 0) hi hl
  have hf1 := fB_le (k := 1) hi hl
  have hf2 := fB_le (k := 2) hi hl
  have hf3 := fB_le (k := 3) hi hl
  refine enter (N := 40) (args := [v]) Try.func22 rfl rfl rfl (St.refl w) ?_
  repeat' (first
  | refine G_nilC ?_
  | refine G_nilN ?_
  | refine G_nilH ?_
  | (refine G_nil ?_; try clear ri_; try clear ops_)
  | (refine V_op ?_; first | exact True.intro | intro v_ h_ w_ r_ t_ | intro (ops_ : Array Oper) ri_ | intro (b_ : Bool) hb_ | intro v_ h_ | intro (v_ : Value) | intro (b_ : Nat) | (refine ⟨fun hc => ?_, fun hc => ?_⟩ <;> try (exfalso; omega)) | refine ⟨?_, ?_⟩ | intro _ | skip)
  | (refine Is_DQ ?_; first | (apply DQ_k rfl rfl rfl; intro mm) | (apply DQ_x rfl rfl rfl; intro mm)))
  obtain ⟨b1, b2⟩ := v_
  refine GC_loopD (X := Nat × Nat × Nat) (fun _ _ y => (y.1 ≤ 4 ∧ y.2.1 < 4) ∧ (0 < y.1 → y.2.2 = fS y.2.1 l ∧ kdGo l y.2.1 (4 - y.1) = kd l)) (fun y s => (3, I y.2.1) :: (4, I y.2.2) :: (11, I y.1) :: s) (fun _ q => q) (fun y => 4 - y.1) (0, 0, 0) (fun _ => ⟨by simp, fun h => by simp at h⟩) (by repeat (first | exact trivial | refine And.intro rfl ?_)) ?_
  rintro ⟨i, b, c⟩ w1 hr1 ⟨⟨h4, hb4⟩, hbc⟩
  simp only at h4 hb4 hbc ⊢
  rcases (by omega : i = 0 ∨ i = 1 ∨ i = 2 ∨ i = 3 ∨ i = 4) with rfl | rfl | rfl | rfl | rfl
  · repeat' (first
  | refine G_nilC ?_
  | refine G_nilN ?_
  | refine G_nilH ?_
  | (refine G_nil ?_; try clear ri_; try clear ops_)
  | (refine V_op ?_; first | exact True.intro | intro v_ h_ w_ r_ t_ | intro (ops_ : Array Oper) ri_ | intro (b_ : Bool) hb_ | intro v_ h_ | intro (v_ : Value) | intro (b_ : Nat) | (refine ⟨fun hc => ?_, fun hc => ?_⟩ <;> try (exfalso; omega)) | refine ⟨?_, ?_⟩ | intro _ | skip)
  | (refine Is_DQ ?_; first | (apply DQ_k rfl rfl rfl; intro mm) | (apply DQ_x rfl rfl rfl; intro mm)))
    rename Sl (Sl Int) => x
    have hx := h_
    have hxl : ∀ j (hj : j < x.l.length), okI x.l[j].l ∧ x.l[j].l.length ≤ 4096 := fun j hj => hok 0 x.l hx x.l[j] (List.getElem_mem hj)
    have hxn : x.l.length ≤ 2 := hcount 0 x.l hx
    refine GC_loopS (X := Nat) (fun j => j ≤ x.l.length) (fun j s => (7, I (sumP ((x.l.take j).map (·.l)))) :: (20, I j) :: s) (fun _ q => q) (fun j => x.l.length - j) 0 (Nat.zero_le _) (by repeat (first | exact trivial | refine And.intro rfl ?_)) ?_
    intro j hj
    by_cases hjl : j < x.l.length
    · haveI : Fct (j < x.l.length) := ⟨hjl⟩
      obtain ⟨o1, o2⟩ := hxl j hjl
      have hb := sumP_take (fun y hy => (hok 0 x.l hx y hy).2) hxn j
      have hb2 := (packB_le o2).1
      repeat' (first
  | refine G_nilC ?_
  | refine G_nilN ?_
  | refine G_nilH ?_
  | (refine G_nil ?_; try clear ri_; try clear ops_)
  | (refine V_op ?_; first | exact True.intro | intro v_ h_ w_ r_ t_ | intro (ops_ : Array Oper) ri_ | intro (b_ : Bool) hb_ | intro v_ h_ | intro (v_ : Value) | intro (b_ : Nat) | (refine ⟨fun hc => ?_, fun hc => ?_⟩ <;> try (exfalso; omega)) | refine ⟨?_, ?_⟩ | intro _ | skip)
  | (refine Is_DQ ?_; first | (apply DQ_k rfl rfl rfl; intro mm) | (apply DQ_x rfl rfl rfl; intro mm)))
      rw [show (sumP ((x.l.take j).map (·.l)) : Int) + ((packB x.l[j].l).length : Int) = ((sumP ((x.l.take (j + 1)).map (·.l)) : Nat) : Int) by rw [sumP_succ hjl]; omega]
      exact At_roundS (j + 1) (by omega) (by omega) (by repeat (first | exact trivial | refine And.intro rfl ?_)) (by repeat (first | exact trivial | refine And.intro rfl ?_))
    · obtain rfl : j = x.l.length := by omega
      have hS : sumP ((x.l.take x.l.length).map (·.l)) = fS 0 l := by rw [List.take_length, hx]; rfl
      rw [hS]
      repeat' (first
  | refine G_nilC ?_
  | refine G_nilN ?_
  | refine G_nilH ?_
  | (refine G_nil ?_; try clear ri_; try clear ops_)
  | (refine V_op ?_; first | exact True.intro | intro v_ h_ w_ r_ t_ | intro (ops_ : Array Oper) ri_ | intro (b_ : Bool) hb_ | intro v_ h_ | intro (v_ : Value) | intro (b_ : Nat) | (refine ⟨fun hc => ?_, fun hc => ?_⟩ <;> try (exfalso; omega)) | refine ⟨?_, ?_⟩ | intro _ | skip)
  | (refine Is_DQ ?_; first | (apply DQ_k rfl rfl rfl; intro mm) | (apply DQ_x rfl rfl rfl; intro mm)))
      exact At_roundD (1, 0, fS 0 l) (fun _ => ⟨by simp, fun _ => ⟨rfl, rfl⟩⟩) (by simp) (by repeat (first | exact trivial | refine And.intro rfl ?_)) (by repeat (first | exact trivial | refine And.intro rfl ?_))
  · repeat' (first
  | refine G_nilC ?_
  | refine G_nilN ?_
  | refine G_nilH ?_
  | (refine G_nil ?_; try clear ri_; try clear ops_)
  | (refine V_op ?_; first | exact True.intro | intro v_ h_ w_ r_ t_ | intro (ops_ : Array Oper) ri_ | intro (b_ : Bool) hb_ | intro v_ h_ | intro (v_ : Value) | intro (b_ : Nat) | (refine ⟨fun hc => ?_, fun hc => ?_⟩ <;> try (exfalso; omega)) | refine ⟨?_, ?_⟩ | intro _ | skip)
  | (refine Is_DQ ?_; first | (apply DQ_k rfl rfl rfl; intro mm) | (apply DQ_x rfl rfl rfl; intro mm)))
    rename Sl (Sl Int) => x
    have hx := h_
    have hxl : ∀ j (hj : j < x.l.length), okI x.l[j].l ∧ x.l[j].l.length ≤ 4096 := fun j hj => hok 1 x.l hx x.l[j] (List.getElem_mem hj)
    have hxn : x.l.length ≤ 2 := hcount 1 x.l hx
    refine GC_loopS (X := Nat) (fun j => j ≤ x.l.length) (fun j s => (7, I (sumP ((x.l.take j).map (·.l)))) :: (20, I j) :: s) (fun _ q => q) (fun j => x.l.length - j) 0 (Nat.zero_le _) (by repeat (first | exact trivial | refine And.intro rfl ?_)) ?_
    intro j hj
    by_cases hjl : j < x.l.length
    · haveI : Fct (j < x.l.length) := ⟨hjl⟩
      obtain ⟨o1, o2⟩ := hxl j hjl
      have hb := sumP_take (fun y hy => (hok 1 x.l hx y hy).2) hxn j
      have hb2 := (packB_le o2).1
      repeat' (first
  | refine G_nilC ?_
  | refine G_nilN ?_
  | refine G_nilH ?_
  | (refine G_nil ?_; try clear ri_; try clear ops_)
  | (refine V_op ?_; first | exact True.intro | intro v_ h_ w_ r_ t_ | intro (ops_ : Array Oper) ri_ | intro (b_ : Bool) hb_ | intro v_ h_ | intro (v_ : Value) | intro (b_ : Nat) | (refine ⟨fun hc => ?_, fun hc => ?_⟩ <;> try (exfalso; omega)) | refine ⟨?_, ?_⟩ | intro _ | skip)
  | (refine Is_DQ ?_; first | (apply DQ_k rfl rfl rfl; intro mm) | (apply DQ_x rfl rfl rfl; intro mm)))
      rw [show (sumP ((x.l.take j).map (·.l)) : Int) + ((packB x.l[j].l).length : Int) = ((sumP ((x.l.take (j + 1)).map (·.l)) : Nat) : Int) by rw [sumP_succ hjl]; omega]
      exact At_roundS (j + 1) (by omega) (by omega) (by repeat (first | exact trivial | refine And.intro rfl ?_)) (by repeat (first | exact trivial | refine And.intro rfl ?_))
    · obtain rfl : j = x.l.length := by omega
      have hS : sumP ((x.l.take x.l.length).map (·.l)) = fS 1 l := by rw [List.take_length, hx]; rfl
      rw [hS]
      obtain ⟨rfl, hg⟩ := hbc (by omega)
      rw [show 4 - 1 = 2 + 1 from rfl, kdGo] at hg
      simp only [Nat.reduceAdd, Nat.reduceSub] at hg
      repeat' (first
  | refine G_nilC ?_
  | refine G_nilN ?_
  | refine G_nilH ?_
  | (refine G_nil ?_; try clear ri_; try clear ops_)
  | (refine V_op ?_; first | exact True.intro | intro v_ h_ w_ r_ t_ | intro (ops_ : Array Oper) ri_ | intro (b_ : Bool) hb_ | intro v_ h_ | intro (v_ : Value) | intro (b_ : Nat) | (refine ⟨fun hc => ?_, fun hc => ?_⟩ <;> try (exfalso; omega)) | refine ⟨?_, ?_⟩ | intro _ | skip)
  | (refine Is_DQ ?_; first | (apply DQ_k rfl rfl rfl; intro mm) | (apply DQ_x rfl rfl rfl; intro mm)))
      · rw [if_pos (by omega)] at hg
        exact At_roundD (2, 1, fS 1 l) (fun _ => ⟨by simp, fun _ => ⟨rfl, hg⟩⟩) (by simp) (by repeat (first | exact trivial | refine And.intro rfl ?_)) (by repeat (first | exact trivial | refine And.intro rfl ?_))
      · rw [if_neg (by omega)] at hg
        exact At_roundD (2, b, fS b l) (fun _ => ⟨⟨by simp, hb4⟩, fun _ => ⟨rfl, hg⟩⟩) (by simp) (by repeat (first | exact trivial | refine And.intro rfl ?_)) (by repeat (first | exact trivial | refine And.intro rfl ?_))
  · repeat' (first
  | refine G_nilC ?_
  | refine G_nilN ?_
  | refine G_nilH ?_
  | (refine G_nil ?_; try clear ri_; try clear ops_)
  | (refine V_op ?_; first | exact True.intro | intro v_ h_ w_ r_ t_ | intro (ops_ : Array Oper) ri_ | intro (b_ : Bool) hb_ | intro v_ h_ | intro (v_ : Value) | intro (b_ : Nat) | (refine ⟨fun hc => ?_, fun hc => ?_⟩ <;> try (exfalso; omega)) | refine ⟨?_, ?_⟩ | intro _ | skip)
  | (refine Is_DQ ?_; first | (apply DQ_k rfl rfl rfl; intro mm) | (apply DQ_x rfl rfl rfl; intro mm)))
    rename Sl (Sl Int) => x
    have hx := h_
    have hxl : ∀ j (hj : j < x.l.length), okI x.l[j].l ∧ x.l[j].l.length ≤ 4096 := fun j hj => hok 2 x.l hx x.l[j] (List.getElem_mem hj)
    have hxn : x.l.length ≤ 2 := hcount 2 x.l hx
    refine GC_loopS (X := Nat) (fun j => j ≤ x.l.length) (fun j s => (7, I (sumP ((x.l.take j).map (·.l)))) :: (20, I j) :: s) (fun _ q => q) (fun j => x.l.length - j) 0 (Nat.zero_le _) (by repeat (first | exact trivial | refine And.intro rfl ?_)) ?_
    intro j hj
    by_cases hjl : j < x.l.length
    · haveI : Fct (j < x.l.length) := ⟨hjl⟩
      obtain ⟨o1, o2⟩ := hxl j hjl
      have hb := sumP_take (fun y hy => (hok 2 x.l hx y hy).2) hxn j
      have hb2 := (packB_le o2).1
      repeat' (first
  | refine G_nilC ?_
  | refine G_nilN ?_
  | refine G_nilH ?_
  | (refine G_nil ?_; try clear ri_; try clear ops_)
  | (refine V_op ?_; first | exact True.intro | intro v_ h_ w_ r_ t_ | intro (ops_ : Array Oper) ri_ | intro (b_ : Bool) hb_ | intro v_ h_ | intro (v_ : Value) | intro (b_ : Nat) | (refine ⟨fun hc => ?_, fun hc => ?_⟩ <;> try (exfalso; omega)) | refine ⟨?_, ?_⟩ | intro _ | skip)
  | (refine Is_DQ ?_; first | (apply DQ_k rfl rfl rfl; intro mm) | (apply DQ_x rfl rfl rfl; intro mm)))
      rw [show (sumP ((x.l.take j).map (·.l)) : Int) + ((packB x.l[j].l).length : Int) = ((sumP ((x.l.take (j + 1)).map (·.l)) : Nat) : Int) by rw [sumP_succ hjl]; omega]
      exact At_roundS (j + 1) (by omega) (by omega) (by repeat (first | exact trivial | refine And.intro rfl ?_)) (by repeat (first | exact trivial | refine And.intro rfl ?_))
    · obtain rfl : j = x.l.length := by omega
      have hS : sumP ((x.l.take x.l.length).map (·.l)) = fS 2 l := by rw [List.take_length, hx]; rfl
      rw [hS]
      obtain ⟨rfl, hg⟩ := hbc (by omega)
      rw [show 4 - 2 = 1 + 1 from rfl, kdGo] at hg
      simp only [Nat.reduceAdd, Nat.reduceSub] at hg
      repeat' (first
  | refine G_nilC ?_
  | refine G_nilN ?_
  | refine G_nilH ?_
  | (refine G_nil ?_; try clear ri_; try clear ops_)
  | (refine V_op ?_; first | exact True.intro | intro v_ h_ w_ r_ t_ | intro (ops_ : Array Oper) ri_ | intro (b_ : Bool) hb_ | intro v_ h_ | intro (v_ : Value) | intro (b_ : Nat) | (refine ⟨fun hc => ?_, fun hc => ?_⟩ <;> try (exfalso; omega)) | refine ⟨?_, ?_⟩ | intro _ | skip)
  | (refine Is_DQ ?_; first | (apply DQ_k rfl rfl rfl; intro mm) | (apply DQ_x rfl rfl rfl; intro mm)))
      · rw [if_pos (by omega)] at hg
        exact At_roundD (3, 2, fS 2 l) (fun _ => ⟨by simp, fun _ => ⟨rfl, hg⟩⟩) (by simp) (by repeat (first | exact trivial | refine And.intro rfl ?_)) (by repeat (first | exact trivial | refine And.intro rfl ?_))
      · rw [if_neg (by omega)] at hg
        exact At_roundD (3, b, fS b l) (fun _ => ⟨⟨by simp, hb4⟩, fun _ => ⟨rfl, hg⟩⟩) (by simp) (by repeat (first | exact trivial | refine And.intro rfl ?_)) (by repeat (first | exact trivial | refine And.intro rfl ?_))
  · repeat' (first
  | refine G_nilC ?_
  | refine G_nilN ?_
  | refine G_nilH ?_
  | (refine G_nil ?_; try clear ri_; try clear ops_)
  | (refine V_op ?_; first | exact True.intro | intro v_ h_ w_ r_ t_ | intro (ops_ : Array Oper) ri_ | intro (b_ : Bool) hb_ | intro v_ h_ | intro (v_ : Value) | intro (b_ : Nat) | (refine ⟨fun hc => ?_, fun hc => ?_⟩ <;> try (exfalso; omega)) | refine ⟨?_, ?_⟩ | intro _ | skip)
  | (refine Is_DQ ?_; first | (apply DQ_k rfl rfl rfl; intro mm) | (apply DQ_x rfl rfl rfl; intro mm)))
    rename Sl (Sl Int) => x
    have hx := h_
    have hxl : ∀ j (hj : j < x.l.length), okI x.l[j].l ∧ x.l[j].l.length ≤ 4096 := fun j hj => hok 3 x.l hx x.l[j] (List.getElem_mem hj)
    have hxn : x.l.length ≤ 2 := hcount 3 x.l hx
    refine GC_loopS (X := Nat) (fun j => j ≤ x.l.length) (fun j s => (7, I (sumP ((x.l.take j).map (·.l)))) :: (20, I j) :: s) (fun _ q => q) (fun j => x.l.length - j) 0 (Nat.zero_le _) (by repeat (first | exact trivial | refine And.intro rfl ?_)) ?_
    intro j hj
    by_cases hjl : j < x.l.length
    · haveI : Fct (j < x.l.length) := ⟨hjl⟩
      obtain ⟨o1, o2⟩ := hxl j hjl
      have hb := sumP_take (fun y hy => (hok 3 x.l hx y hy).2) hxn j
      have hb2 := (packB_le o2).1
      repeat' (first
  | refine G_nilC ?_
  | refine G_nilN ?_
  | refine G_nilH ?_
  | (refine G_nil ?_; try clear ri_; try clear ops_)
  | (refine V_op ?_; first | exact True.intro | intro v_ h_ w_ r_ t_ | intro (ops_ : Array Oper) ri_ | intro (b_ : Bool) hb_ | intro v_ h_ | intro (v_ : Value) | intro (b_ : Nat) | (refine ⟨fun hc => ?_, fun hc => ?_⟩ <;> try (exfalso; omega)) | refine ⟨?_, ?_⟩ | intro _ | skip)
  | (refine Is_DQ ?_; first | (apply DQ_k rfl rfl rfl; intro mm) | (apply DQ_x rfl rfl rfl; intro mm)))
      rw [show (sumP ((x.l.take j).map (·.l)) : Int) + ((packB x.l[j].l).length : Int) = ((sumP ((x.l.take (j + 1)).map (·.l)) : Nat) : Int) by rw [sumP_succ hjl]; omega]
      exact At_roundS (j + 1) (by omega) (by omega) (by repeat (first | exact trivial | refine And.intro rfl ?_)) (by repeat (first | exact trivial | refine And.intro rfl ?_))
    · obtain rfl : j = x.l.length := by omega
      have hS : sumP ((x.l.take x.l.length).map (·.l)) = fS 3 l := by rw [List.take_length, hx]; rfl
      rw [hS]
      obtain ⟨rfl, hg⟩ := hbc (by omega)
      rw [show 4 - 3 = 0 + 1 from rfl, kdGo] at hg
      simp only [Nat.reduceAdd, Nat.reduceSub] at hg
      repeat' (first
  | refine G_nilC ?_
  | refine G_nilN ?_
  | refine G_nilH ?_
  | (refine G_nil ?_; try clear ri_; try clear ops_)
  | (refine V_op ?_; first | exact True.intro | intro v_ h_ w_ r_ t_ | intro (ops_ : Array Oper) ri_ | intro (b_ : Bool) hb_ | intro v_ h_ | intro (v_ : Value) | intro (b_ : Nat) | (refine ⟨fun hc => ?_, fun hc => ?_⟩ <;> try (exfalso; omega)) | refine ⟨?_, ?_⟩ | intro _ | skip)
  | (refine Is_DQ ?_; first | (apply DQ_k rfl rfl rfl; intro mm) | (apply DQ_x rfl rfl rfl; intro mm)))
      · rw [if_pos (by omega)] at hg
        exact At_roundD (4, 3, fS 3 l) (fun _ => ⟨by simp, fun _ => ⟨rfl, hg⟩⟩) (by simp) (by repeat (first | exact trivial | refine And.intro rfl ?_)) (by repeat (first | exact trivial | refine And.intro rfl ?_))
      · rw [if_neg (by omega)] at hg
        exact At_roundD (4, b, fS b l) (fun _ => ⟨⟨by simp, hb4⟩, fun _ => ⟨rfl, hg⟩⟩) (by simp) (by repeat (first | exact trivial | refine And.intro rfl ?_)) (by repeat (first | exact trivial | refine And.intro rfl ?_))
  · repeat' (first
  | refine G_nilC ?_
  | refine G_nilN ?_
  | refine G_nilH ?_
  | (refine G_nil ?_; try clear ri_; try clear ops_)
  | (refine V_op ?_; first | exact True.intro | intro v_ h_ w_ r_ t_ | intro (ops_ : Array Oper) ri_ | intro (b_ : Bool) hb_ | intro v_ h_ | intro (v_ : Value) | intro (b_ : Nat) | (refine ⟨fun hc => ?_, fun hc => ?_⟩ <;> try (exfalso; omega)) | refine ⟨?_, ?_⟩ | intro _ | skip)
  | (refine Is_DQ ?_; first | (apply DQ_k rfl rfl rfl; intro mm) | (apply DQ_x rfl rfl rfl; intro mm)))
    obtain ⟨_, hg⟩ := hbc (by omega)
    simp only [Nat.sub_self, kdGo] at hg
    subst hg
    refine ret_ rfl (by repeat (first | exact ResAll.nil | (apply ResAll.cons; first | exact .tmp rfl | exact .cell rfl rfl | exact .one rfl))) fun w' h' => ?_
    exact .mkB rfl h'
instance {w0 : World} {O : List Nat} {m : List As} {v : Value} {l : List Int} {k : Nat} [h : RdR w0 O m v l] [hk : Eqn (kd l) k] : CallV Try.prog w0 O m 22 [v] (okI l ∧ l.length ≤ 4096) (I k) := ⟨fun hs w hw => by rw [← hk.eq]; exact @run_Kind w v l (RdOld.of (h.rd w hw)) hs.1 hs.2⟩
end Go.Proofs.Ytaegfjolemehaaa
