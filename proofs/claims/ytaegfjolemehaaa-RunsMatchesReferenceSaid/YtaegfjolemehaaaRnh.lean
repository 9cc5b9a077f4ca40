/- Runs: encodings. -/
import Derived.Test.YtaegfjolemehaaaRng
set_option linter.unusedVariables false
set_option linter.unusedSimpArgs false
set_option maxRecDepth 100000
set_option maxHeartbeats 4000000
namespace Go.Proofs.Ytaegfjolemehaaa
open Go.RowKit
attribute [local irreducible] G GC At wpL DR XPost CPost Cut GA GAR GAX GAt NxA GH GHR NxH

theorem ref_formA (w : World) (k : Nat) (v : Value) (l : List Int) [h : RdOld w [] v l] (hk : k < 2) (hi : okI l) (hl : l.length ≤ 4096) : Calls Try.prog 30 #[I k, v] w (Ret w [] (fun _ : Value => True) (fun r => r) (fun r => [row r 5 (fB k l)])) := by
  have h1 := okI_rvs hi
  have h2 := okI_rls (l := l) (by omega)
  have h3 := rvs_len l
  have h4 := rls_len l
  have h5 := (packB_le (l := rvs l) (by omega)).1
  have h6 := (packB_le (l := rls l) (by omega)).1
  haveI : Eqn (pkB l) (packB l) := ⟨pk_small hl⟩
  haveI : Eqn (pkE l) 0 := ⟨pe_small hl⟩
  haveI : Eqn (pkB (rvs l)) (packB (rvs l)) := ⟨pk_small (by omega)⟩
  haveI : Eqn (pkE (rvs l)) 0 := ⟨pe_small (by omega)⟩
  haveI : Eqn (pkB (rls l)) (packB (rls l)) := ⟨pk_small (by omega)⟩
  haveI : Eqn (pkE (rls l)) 0 := ⟨pe_small (by omega)⟩
  rcases (by omega : k = 0 ∨ k = 1) with rfl | rfl
  · rw [show fB 0 l = packB l by simp [fB, lst, lstA]]
    refine enter (N := 31) (args := [I (0 : Nat), v]) Try.func30 rfl rfl rfl (St.refl w) ?_
    repeat' (first
  | refine G_nilC ?_
  | refine G_nilN ?_
  | refine G_nilH ?_
  | (refine G_nil ?_; try clear ri_; try clear ops_)
  | (refine V_op ?_; first | exact True.intro | intro v_ h_ w_ r_ t_ | intro (ops_ : Array Oper) ri_ | intro (b_ : Bool) hb_ | intro v_ h_ | intro (v_ : Value) | intro (b_ : Nat) | (refine ⟨fun hc => ?_, fun hc => ?_⟩ <;> try (exfalso; omega)) | refine ⟨?_, ?_⟩ | intro _ | skip)
  | (refine Is_DQ ?_; first | (apply DQ_k rfl rfl rfl; intro mm) | (apply DQ_x rfl rfl rfl; intro mm)))
    refine ret_ rfl (by repeat (first | exact ResAll.nil | (apply ResAll.cons; first | exact .tmp rfl | exact .cell rfl rfl | exact .one rfl))) fun w' h' => ?_
    exact .mk _ trivial rfl h'
  · rw [show fB 1 l = packB (rvs l) ++ packB (rls l) by simp [fB, lst, lstA]]
    haveI := DrA_30_6
    refine enter (N := 31) (args := [I (1 : Nat), v]) Try.func30 rfl rfl rfl (St.refl w) ?_
    repeat' (first
  | refine G_nilC ?_
  | refine G_nilN ?_
  | refine G_nilH ?_
  | (refine G_nil ?_; try clear ri_; try clear ops_)
  | (refine V_op ?_; first | exact True.intro | intro v_ h_ w_ r_ t_ | intro (ops_ : Array Oper) ri_ | intro (b_ : Bool) hb_ | intro v_ h_ | intro (v_ : Value) | intro (b_ : Nat) | (refine ⟨fun hc => ?_, fun hc => ?_⟩ <;> try (exfalso; omega)) | refine ⟨?_, ?_⟩ | intro _ | skip)
  | (refine Is_DQ ?_; first | (apply DQ_k rfl rfl rfl; intro mm) | (apply DQ_x rfl rfl rfl; intro mm)))
    all_goals
      refine ret_ rfl (by repeat (first | exact ResAll.nil | (apply ResAll.cons; first | exact .tmp rfl | exact .cell rfl rfl | exact .one rfl))) fun w' h' => ?_
      exact .mk _ trivial rfl h'
theorem ref_form4 (w : World) (k : Nat) (v : Value) (l : List Int) [h : RdOld w [] v l] (hk : k < 4) (hi : okI l) (hl : l.length ≤ 4096) : Calls Try.prog 30 #[I k, v] w (Ret w [] (fun _ : Value => True) (fun r => r) (fun r => [row r 5 (fB k l)])) := by
  by_cases hk2 : k < 2
  · exact ref_formA w k v l hk2 hi hl
  · haveI : ∀ {w0 : World} {O : List Nat} {m : List As} {v : Value} {l : List Int} {z : Int} [h : RdR w0 O m v l], CallR Try.prog w0 O m 30 [I z, v] ((0 ≤ z ∧ z < 2) ∧ okI l ∧ l.length ≤ 4096) (fun _ : Value => True) (fun r => r) (fun r => row r 5 (fB z.toNat l) :: m) := @fun w0 O m v l z h => .new1 (M := fun r => row r _ (fB z.toNat l)) fun hs w hw => by
      obtain ⟨j, rfl⟩ : ∃ j : Nat, z = j := ⟨z.toNat, by omega⟩
      exact @ref_formA w j v l (RdOld.of (h.rd w hw)) (by omega) hs.2.1 hs.2.2
    have h1 := okI_dif hi
    have h2 : (difL l).length = l.length := by simp
    have e : ((k : Int) - 2).toNat = k - 2 := by omega
    have e2 : fB k l = fB ((k : Int) - 2).toNat (difL l) := by rw [e, fB, fB, lst, lst, if_pos (by omega), if_neg (by omega)]
    rw [e2]
    refine enter (N := 31) (args := [I k, v]) Try.func30 rfl rfl rfl (St.refl w) ?_
    repeat' (first
  | refine G_nilC ?_
  | refine G_nilN ?_
  | refine G_nilH ?_
  | (refine G_nil ?_; try clear ri_; try clear ops_)
  | (refine V_op ?_; first | exact True.intro | intro v_ h_ w_ r_ t_ | intro (ops_ : Array Oper) ri_ | intro (b_ : Bool) hb_ | intro v_ h_ | intro (v_ : Value) | intro (b_ : Nat) | (refine ⟨fun hc => ?_, fun hc => ?_⟩ <;> try (exfalso; omega)) | refine ⟨?_, ?_⟩ | intro _ | skip)
  | (refine Is_DQ ?_; first | (apply DQ_k rfl rfl rfl; intro mm) | (apply DQ_x rfl rfl rfl; intro mm)))
    refine ret_ rfl (by repeat (first | exact ResAll.nil | (apply ResAll.cons; first | exact .tmp rfl | exact .cell rfl rfl | exact .one rfl))) fun w' h' => ?_
    exact .mk _ trivial rfl h'
instance {w0 : World} {O : List Nat} {m : List As} {v : Value} {l : List Int} [h : RdR w0 O m v l] {z : Int} {k : Nat} {sd : Prop} [hz : NatR z k sd] : CallR Try.prog w0 O m 30 [I z, v] ((sd ∧ k < 4) ∧ okI l ∧ l.length ≤ 4096) (fun _ : Value => True) (fun r => r) (fun r => row r 5 (fB k l) :: m) :=
  .new1 (M := fun r => row r _ (fB k l)) fun hs w hw => by
    rw [hz.eq hs.1.1]
    exact @ref_form4 w k v l (RdOld.of (h.rd w hw)) hs.1.2 hs.2.1 hs.2.2

/-- what Encode gives -/
def enB (l : List Int) : List (BitVec 8) := if l.length ≤ 4096 then encB l else []
def enE (l : List Int) : Int := if l.length ≤ 4096 then 0 else 2
theorem en_small {l : List Int} (h : l.length ≤ 4096) : enB l = encB l := by rw [enB, if_pos h]
theorem ee_small {l : List Int} (h : l.length ≤ 4096) : enE l = 0 := by rw [enE, if_pos h]
theorem ref_Encode (w : World) (v : Value) (l : List Int) [h : RdOld w [] v l] (hi : okI l) : Calls Try.prog 11 #[v] w (Ret w [] (fun _ : Value => True) (fun r => .agg #[r, I (enE l)]) (fun r => [row r 5 (enB l)])) := by
  by_cases hl : l.length ≤ 4096
  · have hf := fB_le (k := kd l) hi hl
    have hk := kd_lt l
    unfold fS at hf
    rw [en_small hl, ee_small hl, encB]
    generalize hkd : kd l = k at hk hf ⊢
    haveI : Eqn (kd l) k := ⟨hkd⟩
    rcases (by omega : k = 0 ∨ k = 1 ∨ k = 2 ∨ k = 3) with rfl | rfl | rfl | rfl
    all_goals
      refine enter (N := 18) (args := [v]) Try.func11 rfl rfl rfl (St.refl w) ?_
      repeat' (first
  | refine G_nilC ?_
  | refine G_nilN ?_
  | refine G_nilH ?_
  | (refine G_nil ?_; try clear ri_; try clear ops_)
  | (refine V_op ?_; first | exact True.intro | intro v_ h_ w_ r_ t_ | intro (ops_ : Array Oper) ri_ | intro (b_ : Bool) hb_ | intro v_ h_ | intro (v_ : Value) | intro (b_ : Nat) | (refine ⟨fun hc => ?_, fun hc => ?_⟩ <;> try (exfalso; omega)) | refine ⟨?_, ?_⟩ | intro _ | skip)
  | (refine Is_DQ ?_; first | (apply DQ_k rfl rfl rfl; intro mm) | (apply DQ_x rfl rfl rfl; intro mm)))
      refine ret_ rfl (by repeat (first | exact ResAll.nil | (apply ResAll.cons; first | exact .tmp rfl | exact .cell rfl rfl | exact .one rfl))) fun w' h' => ?_
      exact .mk _ trivial rfl h'
  · have h0 := hl
    rw [enB, enE, if_neg hl, if_neg hl]
    refine enter (N := 18) (args := [v]) Try.func11 rfl rfl rfl (St.refl w) ?_
    repeat' (first
  | refine G_nilC ?_
  | refine G_nilN ?_
  | refine G_nilH ?_
  | (refine G_nil ?_; try clear ri_; try clear ops_)
  | (refine V_op ?_; first | exact True.intro | intro v_ h_ w_ r_ t_ | intro (ops_ : Array Oper) ri_ | intro (b_ : Bool) hb_ | intro v_ h_ | intro (v_ : Value) | intro (b_ : Nat) | (refine ⟨fun hc => ?_, fun hc => ?_⟩ <;> try (exfalso; omega)) | refine ⟨?_, ?_⟩ | intro _ | skip)
  | (refine Is_DQ ?_; first | (apply DQ_k rfl rfl rfl; intro mm) | (apply DQ_x rfl rfl rfl; intro mm)))
    refine ret_ rfl (by repeat (first | exact ResAll.nil | (apply ResAll.cons; first | exact .tmp rfl | exact .cell rfl rfl | exact .one rfl))) fun w' h' => ?_
    exact .mk (M := fun q => [row q 5 ([] : List (BitVec 8))]) (.slice none 0 0) trivial rfl h'
theorem run_Encode (w : World) (v : Value) (l : List Int) [h : RdOld w [] v l] (hi : okI l) : Calls Try.prog 29 #[v] w (Ret w [] (fun _ : Value => True) (fun r => .tuple #[r, I (enE l)]) (fun r => [row r 5 (enB l)])) := by
  haveI := h.isOne
  by_cases hl : l.length ≤ 4096
  · have hok : ∀ k (L : List (Sl Int)), L.map (·.l) = lst k l → ∀ x ∈ L, okI x.l ∧ x.l.length ≤ 4096 := fun k L hL x hx => lst_ok hi hl x.l (by rw [← hL]; exact List.mem_map_of_mem hx)
    have hcount : ∀ k (L : List (Sl Int)), L.map (·.l) = lst k l → L.length ≤ 2 := fun k L hL => by
      have := congrArg List.length hL
      rw [List.length_map] at this
      rw [this]; unfold lst lstA; split <;> split <;> simp
    have hk := kd_lt l
    rw [en_small hl, ee_small hl, encB, fB]
    generalize hkd : kd l = k at hk ⊢
    haveI : Eqn (kd l) k := ⟨hkd⟩
    rcases (by omega : k = 0 ∨ k = 1 ∨ k = 2 ∨ k = 3) with rfl | rfl | rfl | rfl
    · refine enter (N := 42) (args := [v]) Try.func29 rfl rfl rfl (St.refl w) ?_
      repeat' (first
  | refine G_nilC ?_
  | refine G_nilN ?_
  | refine G_nilH ?_
  | (refine G_nil ?_; try clear ri_; try clear ops_)
  | (refine V_op ?_; first | exact True.intro | intro v_ h_ w_ r_ t_ | intro (ops_ : Array Oper) ri_ | intro (b_ : Bool) hb_ | intro v_ h_ | intro (v_ : Value) | intro (b_ : Nat) | (refine ⟨fun hc => ?_, fun hc => ?_⟩ <;> try (exfalso; omega)) | refine ⟨?_, ?_⟩ | intro _ | skip)
  | (refine Is_DQ ?_; first | (apply DQ_k rfl rfl rfl; intro mm) | (apply DQ_x rfl rfl rfl; intro mm)))
      rename Sl (Sl Int) => x
      have hx := h_
      have hxl : ∀ j (hj : j < x.l.length), okI x.l[j].l ∧ x.l[j].l.length ≤ 4096 := fun j hj => hok 0 x.l hx x.l[j] (List.getElem_mem hj)
      have hxn : x.l.length ≤ 2 := hcount 0 x.l hx
      refine GC_loopS (X := Nat × Value) (fun j => j.1 ≤ x.l.length) (fun j s => (5, j.2) :: (25, I j.1) :: s) (fun j q => row j.2 5 (BitVec.ofNat 8 0 :: ((x.l.take j.1).map (·.l)).flatMap packB) :: q) (fun j => x.l.length - j.1) (0, _) (Nat.zero_le _) (by repeat (first | exact trivial | refine And.intro rfl ?_)) ?_ (hm0 := by simp only [List.take_zero, List.map_nil, List.flatMap_nil]; exact rfl)
      rintro ⟨j, q⟩ hj
      simp only at hj ⊢
      have hbl : (BitVec.ofNat 8 0 :: ((x.l.take j).map (·.l)).flatMap packB).length ≤ 65579 := by
        have := sumP_take (fun y hy => (hok 0 x.l hx y hy).2) hxn j
        rw [List.length_cons]; exact Nat.succ_le_succ this
      by_cases hjl : j < x.l.length
      · haveI : Fct (j < x.l.length) := ⟨hjl⟩
        obtain ⟨o1, o2⟩ := hxl j hjl
        have hb2 := (packB_le o2).1
        haveI : Eqn (pkB x.l[j].l) (packB x.l[j].l) := ⟨pk_small o2⟩
        haveI : Eqn (pkE x.l[j].l) 0 := ⟨pe_small o2⟩
        haveI : AppN (BitVec.ofNat 8 0 :: ((x.l.take j).map (·.l)).flatMap packB) (packB x.l[j].l) (BitVec.ofNat 8 0 :: ((x.l.take (j + 1)).map (·.l)).flatMap packB) := ⟨by
          rw [List.take_succ_eq_append_getElem hjl]
          simp only [List.cons_append, List.map_append, List.map_cons, List.map_nil, List.flatMap_append, List.flatMap_cons, List.flatMap_nil, List.append_nil]⟩
        repeat' (first
  | refine G_nilC ?_
  | refine G_nilN ?_
  | refine G_nilH ?_
  | (refine G_nil ?_; try clear ri_; try clear ops_)
  | (refine V_op ?_; first | exact True.intro | intro v_ h_ w_ r_ t_ | intro (ops_ : Array Oper) ri_ | intro (b_ : Bool) hb_ | intro v_ h_ | intro (v_ : Value) | intro (b_ : Nat) | (refine ⟨fun hc => ?_, fun hc => ?_⟩ <;> try (exfalso; omega)) | refine ⟨?_, ?_⟩ | intro _ | skip)
  | (refine Is_DQ ?_; first | (apply DQ_k rfl rfl rfl; intro mm) | (apply DQ_x rfl rfl rfl; intro mm)))
        exact At_roundS (j + 1, _) (by simp only; omega) (by simp only; omega) (by repeat (first | exact trivial | refine And.intro rfl ?_)) (by repeat (first | exact trivial | refine And.intro rfl ?_))
      · obtain rfl : j = x.l.length := by omega
        rw [List.take_length, show x.l.map (·.l) = lst 0 l from hx]
        repeat' (first
  | refine G_nilC ?_
  | refine G_nilN ?_
  | refine G_nilH ?_
  | (refine G_nil ?_; try clear ri_; try clear ops_)
  | (refine V_op ?_; first | exact True.intro | intro v_ h_ w_ r_ t_ | intro (ops_ : Array Oper) ri_ | intro (b_ : Bool) hb_ | intro v_ h_ | intro (v_ : Value) | intro (b_ : Nat) | (refine ⟨fun hc => ?_, fun hc => ?_⟩ <;> try (exfalso; omega)) | refine ⟨?_, ?_⟩ | intro _ | skip)
  | (refine Is_DQ ?_; first | (apply DQ_k rfl rfl rfl; intro mm) | (apply DQ_x rfl rfl rfl; intro mm)))
        refine ret_ rfl (by repeat (first | exact ResAll.nil | (apply ResAll.cons; first | exact .tmp rfl | exact .cell rfl rfl | exact .one rfl))) fun w' h' => ?_
        exact .mkB q trivial rfl h' (M := fun r => [row r 5 (BitVec.ofNat 8 0 :: (lst 0 l).flatMap packB)])
    · refine enter (N := 42) (args := [v]) Try.func29 rfl rfl rfl (St.refl w) ?_
      repeat' (first
  | refine G_nilC ?_
  | refine G_nilN ?_
  | refine G_nilH ?_
  | (refine G_nil ?_; try clear ri_; try clear ops_)
  | (refine V_op ?_; first | exact True.intro | intro v_ h_ w_ r_ t_ | intro (ops_ : Array Oper) ri_ | intro (b_ : Bool) hb_ | intro v_ h_ | intro (v_ : Value) | intro (b_ : Nat) | (refine ⟨fun hc => ?_, fun hc => ?_⟩ <;> try (exfalso; omega)) | refine ⟨?_, ?_⟩ | intro _ | skip)
  | (refine Is_DQ ?_; first | (apply DQ_k rfl rfl rfl; intro mm) | (apply DQ_x rfl rfl rfl; intro mm)))
      rename Sl (Sl Int) => x
      have hx := h_
      have hxl : ∀ j (hj : j < x.l.length), okI x.l[j].l ∧ x.l[j].l.length ≤ 4096 := fun j hj => hok 1 x.l hx x.l[j] (List.getElem_mem hj)
      have hxn : x.l.length ≤ 2 := hcount 1 x.l hx
      refine GC_loopS (X := Nat × Value) (fun j => j.1 ≤ x.l.length) (fun j s => (5, j.2) :: (25, I j.1) :: s) (fun j q => row j.2 5 (BitVec.ofNat 8 1 :: ((x.l.take j.1).map (·.l)).flatMap packB) :: q) (fun j => x.l.length - j.1) (0, _) (Nat.zero_le _) (by repeat (first | exact trivial | refine And.intro rfl ?_)) ?_ (hm0 := by simp only [List.take_zero, List.map_nil, List.flatMap_nil]; exact rfl)
      rintro ⟨j, q⟩ hj
      simp only at hj ⊢
      have hbl : (BitVec.ofNat 8 1 :: ((x.l.take j).map (·.l)).flatMap packB).length ≤ 65579 := by
        have := sumP_take (fun y hy => (hok 1 x.l hx y hy).2) hxn j
        rw [List.length_cons]; exact Nat.succ_le_succ this
      by_cases hjl : j < x.l.length
      · haveI : Fct (j < x.l.length) := ⟨hjl⟩
        obtain ⟨o1, o2⟩ := hxl j hjl
        have hb2 := (packB_le o2).1
        haveI : Eqn (pkB x.l[j].l) (packB x.l[j].l) := ⟨pk_small o2⟩
        haveI : Eqn (pkE x.l[j].l) 0 := ⟨pe_small o2⟩
        haveI : AppN (BitVec.ofNat 8 1 :: ((x.l.take j).map (·.l)).flatMap packB) (packB x.l[j].l) (BitVec.ofNat 8 1 :: ((x.l.take (j + 1)).map (·.l)).flatMap packB) := ⟨by
          rw [List.take_succ_eq_append_getElem hjl]
          simp only [List.cons_append, List.map_append, List.map_cons, List.map_nil, List.flatMap_append, List.flatMap_cons, List.flatMap_nil, List.append_nil]⟩
        repeat' (first
  | refine G_nilC ?_
  | refine G_nilN ?_
  | refine G_nilH ?_
  | (refine G_nil ?_; try clear ri_; try clear ops_)
  | (refine V_op ?_; first | exact True.intro | intro v_ h_ w_ r_ t_ | intro (ops_ : Array Oper) ri_ | intro (b_ : Bool) hb_ | intro v_ h_ | intro (v_ : Value) | intro (b_ : Nat) | (refine ⟨fun hc => ?_, fun hc => ?_⟩ <;> try (exfalso; omega)) | refine ⟨?_, ?_⟩ | intro _ | skip)
  | (refine Is_DQ ?_; first | (apply DQ_k rfl rfl rfl; intro mm) | (apply DQ_x rfl rfl rfl; intro mm)))
        exact At_roundS (j + 1, _) (by simp only; omega) (by simp only; omega) (by repeat (first | exact trivial | refine And.intro rfl ?_)) (by repeat (first | exact trivial | refine And.intro rfl ?_))
      · obtain rfl : j = x.l.length := by omega
        rw [List.take_length, show x.l.map (·.l) = lst 1 l from hx]
        repeat' (first
  | refine G_nilC ?_
  | refine G_nilN ?_
  | refine G_nilH ?_
  | (refine G_nil ?_; try clear ri_; try clear ops_)
  | (refine V_op ?_; first | exact True.intro | intro v_ h_ w_ r_ t_ | intro (ops_ : Array Oper) ri_ | intro (b_ : Bool) hb_ | intro v_ h_ | intro (v_ : Value) | intro (b_ : Nat) | (refine ⟨fun hc => ?_, fun hc => ?_⟩ <;> try (exfalso; omega)) | refine ⟨?_, ?_⟩ | intro _ | skip)
  | (refine Is_DQ ?_; first | (apply DQ_k rfl rfl rfl; intro mm) | (apply DQ_x rfl rfl rfl; intro mm)))
        refine ret_ rfl (by repeat (first | exact ResAll.nil | (apply ResAll.cons; first | exact .tmp rfl | exact .cell rfl rfl | exact .one rfl))) fun w' h' => ?_
        exact .mkB q trivial rfl h' (M := fun r => [row r 5 (BitVec.ofNat 8 1 :: (lst 1 l).flatMap packB)])
    · refine enter (N := 42) (args := [v]) Try.func29 rfl rfl rfl (St.refl w) ?_
      repeat' (first
  | refine G_nilC ?_
  | refine G_nilN ?_
  | refine G_nilH ?_
  | (refine G_nil ?_; try clear ri_; try clear ops_)
  | (refine V_op ?_; first | exact True.intro | intro v_ h_ w_ r_ t_ | intro (ops_ : Array Oper) ri_ | intro (b_ : Bool) hb_ | intro v_ h_ | intro (v_ : Value) | intro (b_ : Nat) | (refine ⟨fun hc => ?_, fun hc => ?_⟩ <;> try (exfalso; omega)) | refine ⟨?_, ?_⟩ | intro _ | skip)
  | (refine Is_DQ ?_; first | (apply DQ_k rfl rfl rfl; intro mm) | (apply DQ_x rfl rfl rfl; intro mm)))
      rename Sl (Sl Int) => x
      have hx := h_
      have hxl : ∀ j (hj : j < x.l.length), okI x.l[j].l ∧ x.l[j].l.length ≤ 4096 := fun j hj => hok 2 x.l hx x.l[j] (List.getElem_mem hj)
      have hxn : x.l.length ≤ 2 := hcount 2 x.l hx
      refine GC_loopS (X := Nat × Value) (fun j => j.1 ≤ x.l.length) (fun j s => (5, j.2) :: (25, I j.1) :: s) (fun j q => row j.2 5 (BitVec.ofNat 8 2 :: ((x.l.take j.1).map (·.l)).flatMap packB) :: q) (fun j => x.l.length - j.1) (0, _) (Nat.zero_le _) (by repeat (first | exact trivial | refine And.intro rfl ?_)) ?_ (hm0 := by simp only [List.take_zero, List.map_nil, List.flatMap_nil]; exact rfl)
      rintro ⟨j, q⟩ hj
      simp only at hj ⊢
      have hbl : (BitVec.ofNat 8 2 :: ((x.l.take j).map (·.l)).flatMap packB).length ≤ 65579 := by
        have := sumP_take (fun y hy => (hok 2 x.l hx y hy).2) hxn j
        rw [List.length_cons]; exact Nat.succ_le_succ this
      by_cases hjl : j < x.l.length
      · haveI : Fct (j < x.l.length) := ⟨hjl⟩
        obtain ⟨o1, o2⟩ := hxl j hjl
        have hb2 := (packB_le o2).1
        haveI : Eqn (pkB x.l[j].l) (packB x.l[j].l) := ⟨pk_small o2⟩
        haveI : Eqn (pkE x.l[j].l) 0 := ⟨pe_small o2⟩
        haveI : AppN (BitVec.ofNat 8 2 :: ((x.l.take j).map (·.l)).flatMap packB) (packB x.l[j].l) (BitVec.ofNat 8 2 :: ((x.l.take (j + 1)).map (·.l)).flatMap packB) := ⟨by
          rw [List.take_succ_eq_append_getElem hjl]
          simp only [List.cons_append, List.map_append, List.map_cons, List.map_nil, List.flatMap_append, List.flatMap_cons, List.flatMap_nil, List.append_nil]⟩
        repeat' (first
  | refine G_nilC ?_
  | refine G_nilN ?_
  | refine G_nilH ?_
  | (refine G_nil ?_; try clear ri_; try clear ops_)
  | (refine V_op ?_; first | exact True.intro | intro v_ h_ w_ r_ t_ | intro (ops_ : Array Oper) ri_ | intro (b_ : Bool) hb_ | intro v_ h_ | intro (v_ : Value) | intro (b_ : Nat) | (refine ⟨fun hc => ?_, fun hc => ?_⟩ <;> try (exfalso; omega)) | refine ⟨?_, ?_⟩ | intro _ | skip)
  | (refine Is_DQ ?_; first | (apply DQ_k rfl rfl rfl; intro mm) | (apply DQ_x rfl rfl rfl; intro mm)))
        exact At_roundS (j + 1, _) (by simp only; omega) (by simp only; omega) (by repeat (first | exact trivial | refine And.intro rfl ?_)) (by repeat (first | exact trivial | refine And.intro rfl ?_))
      · obtain rfl : j = x.l.length := by omega
        rw [List.take_length, show x.l.map (·.l) = lst 2 l from hx]
        repeat' (first
  | refine G_nilC ?_
  | refine G_nilN ?_
  | refine G_nilH ?_
  | (refine G_nil ?_; try clear ri_; try clear ops_)
  | (refine V_op ?_; first | exact True.intro | intro v_ h_ w_ r_ t_ | intro (ops_ : Array Oper) ri_ | intro (b_ : Bool) hb_ | intro v_ h_ | intro (v_ : Value) | intro (b_ : Nat) | (refine ⟨fun hc => ?_, fun hc => ?_⟩ <;> try (exfalso; omega)) | refine ⟨?_, ?_⟩ | intro _ | skip)
  | (refine Is_DQ ?_; first | (apply DQ_k rfl rfl rfl; intro mm) | (apply DQ_x rfl rfl rfl; intro mm)))
        refine ret_ rfl (by repeat (first | exact ResAll.nil | (apply ResAll.cons; first | exact .tmp rfl | exact .cell rfl rfl | exact .one rfl))) fun w' h' => ?_
        exact .mkB q trivial rfl h' (M := fun r => [row r 5 (BitVec.ofNat 8 2 :: (lst 2 l).flatMap packB)])
    · refine enter (N := 42) (args := [v]) Try.func29 rfl rfl rfl (St.refl w) ?_
      repeat' (first
  | refine G_nilC ?_
  | refine G_nilN ?_
  | refine G_nilH ?_
  | (refine G_nil ?_; try clear ri_; try clear ops_)
  | (refine V_op ?_; first | exact True.intro | intro v_ h_ w_ r_ t_ | intro (ops_ : Array Oper) ri_ | intro (b_ : Bool) hb_ | intro v_ h_ | intro (v_ : Value) | intro (b_ : Nat) | (refine ⟨fun hc => ?_, fun hc => ?_⟩ <;> try (exfalso; omega)) | refine ⟨?_, ?_⟩ | intro _ | skip)
  | (refine Is_DQ ?_; first | (apply DQ_k rfl rfl rfl; intro mm) | (apply DQ_x rfl rfl rfl; intro mm)))
      rename Sl (Sl Int) => x
      have hx := h_
      have hxl : ∀ j (hj : j < x.l.length), okI x.l[j].l ∧ x.l[j].l.length ≤ 4096 := fun j hj => hok 3 x.l hx x.l[j] (List.getElem_mem hj)
      have hxn : x.l.length ≤ 2 := hcount 3 x.l hx
      refine GC_loopS (X := Nat × Value) (fun j => j.1 ≤ x.l.length) (fun j s => (5, j.2) :: (25, I j.1) :: s) (fun j q => row j.2 5 (BitVec.ofNat 8 3 :: ((x.l.take j.1).map (·.l)).flatMap packB) :: q) (fun j => x.l.length - j.1) (0, _) (Nat.zero_le _) (by repeat (first | exact trivial | refine And.intro rfl ?_)) ?_ (hm0 := by simp only [List.take_zero, List.map_nil, List.flatMap_nil]; exact rfl)
      rintro ⟨j, q⟩ hj
      simp only at hj ⊢
      have hbl : (BitVec.ofNat 8 3 :: ((x.l.take j).map (·.l)).flatMap packB).length ≤ 65579 := by
        have := sumP_take (fun y hy => (hok 3 x.l hx y hy).2) hxn j
        rw [List.length_cons]; exact Nat.succ_le_succ this
      by_cases hjl : j < x.l.length
      · haveI : Fct (j < x.l.length) := ⟨hjl⟩
        obtain ⟨o1, o2⟩ := hxl j hjl
        have hb2 := (packB_le o2).1
        haveI : Eqn (pkB x.l[j].l) (packB x.l[j].l) := ⟨pk_small o2⟩
        haveI : Eqn (pkE x.l[j].l) 0 := ⟨pe_small o2⟩
        haveI : AppN (BitVec.ofNat 8 3 :: ((x.l.take j).map (·.l)).flatMap packB) (packB x.l[j].l) (BitVec.ofNat 8 3 :: ((x.l.take (j + 1)).map (·.l)).flatMap packB) := ⟨by
          rw [List.take_succ_eq_append_getElem hjl]
          simp only [List.cons_append, List.map_append, List.map_cons, List.map_nil, List.flatMap_append, List.flatMap_cons, List.flatMap_nil, List.append_nil]⟩
        repeat' (first
  | refine G_nilC ?_
  | refine G_nilN ?_
  | refine G_nilH ?_
  | (refine G_nil ?_; try clear ri_; try clear ops_)
  | (refine V_op ?_; first | exact True.intro | intro v_ h_ w_ r_ t_ | intro (ops_ : Array Oper) ri_ | intro (b_ : Bool) hb_ | intro v_ h_ | intro (v_ : Value) | intro (b_ : Nat) | (refine ⟨fun hc => ?_, fun hc => ?_⟩ <;> try (exfalso; omega)) | refine ⟨?_, ?_⟩ | intro _ | skip)
  | (refine Is_DQ ?_; first | (apply DQ_k rfl rfl rfl; intro mm) | (apply DQ_x rfl rfl rfl; intro mm)))
        exact At_roundS (j + 1, _) (by simp only; omega) (by simp only; omega) (by repeat (first | exact trivial | refine And.intro rfl ?_)) (by repeat (first | exact trivial | refine And.intro rfl ?_))
      · obtain rfl : j = x.l.length := by omega
        rw [List.take_length, show x.l.map (·.l) = lst 3 l from hx]
        repeat' (first
  | refine G_nilC ?_
  | refine G_nilN ?_
  | refine G_nilH ?_
  | (refine G_nil ?_; try clear ri_; try clear ops_)
  | (refine V_op ?_; first | exact True.intro | intro v_ h_ w_ r_ t_ | intro (ops_ : Array Oper) ri_ | intro (b_ : Bool) hb_ | intro v_ h_ | intro (v_ : Value) | intro (b_ : Nat) | (refine ⟨fun hc => ?_, fun hc => ?_⟩ <;> try (exfalso; omega)) | refine ⟨?_, ?_⟩ | intro _ | skip)
  | (refine Is_DQ ?_; first | (apply DQ_k rfl rfl rfl; intro mm) | (apply DQ_x rfl rfl rfl; intro mm)))
        refine ret_ rfl (by repeat (first | exact ResAll.nil | (apply ResAll.cons; first | exact .tmp rfl | exact .cell rfl rfl | exact .one rfl))) fun w' h' => ?_
        exact .mkB q trivial rfl h' (M := fun r => [row r 5 (BitVec.ofNat 8 3 :: (lst 3 l).flatMap packB)])
  · have h0 := hl
    rw [enB, enE, if_neg hl, if_neg hl]
    refine enter (N := 42) (args := [v]) Try.func29 rfl rfl rfl (St.refl w) ?_
    repeat' (first
  | refine G_nilC ?_
  | refine G_nilN ?_
  | refine G_nilH ?_
  | (refine G_nil ?_; try clear ri_; try clear ops_)
  | (refine V_op ?_; first | exact True.intro | intro v_ h_ w_ r_ t_ | intro (ops_ : Array Oper) ri_ | intro (b_ : Bool) hb_ | intro v_ h_ | intro (v_ : Value) | intro (b_ : Nat) | (refine ⟨fun hc => ?_, fun hc => ?_⟩ <;> try (exfalso; omega)) | refine ⟨?_, ?_⟩ | intro _ | skip)
  | (refine Is_DQ ?_; first | (apply DQ_k rfl rfl rfl; intro mm) | (apply DQ_x rfl rfl rfl; intro mm)))
    refine ret_ rfl (by repeat (first | exact ResAll.nil | (apply ResAll.cons; first | exact .tmp rfl | exact .cell rfl rfl | exact .one rfl))) fun w' h' => ?_
    exact .mk (M := fun q => [row q 5 ([] : List (BitVec 8))]) (.slice none 0 0) trivial rfl h'
section
variable {w0 : World} {O : List Nat} {m : List As} {v : Value} {l : List Int} {b : List (BitVec 8)} {e : Int}
instance [h : RdR w0 O m v l] [hb : Eqn (enB l) b] [he : Eqn (enE l) e] : CallR Try.prog w0 O m 11 [v] (okI l) (fun _ : Value => True) (fun r => .agg #[r, I e]) (fun r => row r 5 b :: m) :=
  .new1 (M := fun r => row r _ b) fun hs w hw => by rw [← hb.eq, ← he.eq]; exact @ref_Encode w v l (RdOld.of (h.rd w hw)) hs
instance [h : RdR w0 O m v l] [hb : Eqn (enB l) b] [he : Eqn (enE l) e] : CallR Try.prog w0 O m 29 [v] (okI l) (fun _ : Value => True) (fun r => .tuple #[r, I e]) (fun r => row r 5 b :: m) :=
  .new1 (M := fun r => row r _ b) fun hs w hw => by rw [← hb.eq, ← he.eq]; exact @run_Encode w v l (RdOld.of (h.rd w hw)) hs
end
end Go.Proofs.Ytaegfjolemehaaa
