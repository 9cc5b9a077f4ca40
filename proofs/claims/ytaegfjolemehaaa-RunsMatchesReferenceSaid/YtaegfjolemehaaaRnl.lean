/- Runs: the examples. -/
import Derived.Test.YtaegfjolemehaaaRnk
set_option linter.unusedVariables false
set_option linter.unusedSimpArgs false
set_option maxRecDepth 100000
set_option maxHeartbeats 4000000
namespace Go.Proofs.Ytaegfjolemehaaa
open Go.RowKit
attribute [local irreducible] G GC At wpL DR XPost CPost Cut GA GAR GAX GAt NxA GH GHR NxH

theorem packB_ge {l : List Int} (h : 0 < l.length) : 3 + siz l.length (wid l) ≤ (packB l).length := by
  have h1 : 0 < (vint (BitVec.ofNat 64 l.length)).length := by
    unfold vint; split <;> simp
  have h2 : 0 < (vint (zig (lmin l))).length := by
    unfold vint; split <;> simp
  rw [packB_pos h]
  simp only [List.length_append, List.length_cons, leB_length]
  omega
theorem rns_ne {l : List Int} (h : 0 < l.length) : 0 < (rns l).length := by
  have := rns_pos (l := l) (i := l.length) h (Nat.le_refl _)
  rwa [List.take_length] at this
theorem fS_0 (l : List Int) : fS 0 l = (packB l).length := by simp [fS, fB, lst, lstA]
theorem fS_1 (l : List Int) : fS 1 l = (packB (rvs l)).length + (packB (rls l)).length := by simp [fS, fB, lst, lstA]
theorem fS_2 (l : List Int) : fS 2 l = (packB (difL l)).length := by simp [fS, fB, lst, lstA]
theorem fS_3 (l : List Int) : fS 3 l = (packB (rvs (difL l))).length + (packB (rls (difL l))).length := by simp [fS, fB, lst, lstA]
theorem kd_eq (l : List Int) : kd l = (let b1 := if fS 1 l < fS 0 l then 1 else 0; let b2 := if fS 2 l < fS b1 l then 2 else b1; if fS 3 l < fS b2 l then 3 else b2) := rfl
theorem kd_nil : kd [] = 0 := by
  have e : (packB []).length = 1 := by rw [packB_nil]; rfl
  have h0 : fS 0 [] = 1 := by rw [fS_0, e]
  have h1 : fS 1 [] = 2 := by rw [fS_1, rvs_nil, rls_nil, e]
  have h2 : fS 2 [] = 1 := by rw [fS_2, show difL [] = [] from rfl, e]
  have h3 : fS 3 [] = 2 := by rw [fS_3, show difL [] = [] from rfl, rvs_nil, rls_nil, e]
  rw [kd_eq, h0, h1, h3]
  simp [h0, h2]
theorem enc_nil : encB [] = [0#8, 0#8] := by
  rw [encB, kd_nil, fB, show lst 0 [] = [[]] from rfl]
  simp only [List.flatMap_cons, List.flatMap_nil, List.append_nil, packB_nil]
def stepsL (k : Nat) : List Int := (List.range k).map fun i : Nat => (i : Int) + 1
theorem steps_dif : difL (stepsL 100) = List.replicate 100 1 := by decide +kernel
theorem kd_steps : kd (stepsL 100) = 2 := by
  have hl : (stepsL 100).length = 100 := by simp [stepsL]
  have h2 : fS 2 (stepsL 100) = 3 := by
    rw [fS_2, steps_dif]
    have hw : wid (List.replicate 100 (1 : Int)) = 0 := by
      unfold wid
      rw [show (dif (lmin (List.replicate 100 (1 : Int))) (lmax (List.replicate 100 (1 : Int)))).toNat = 0 by decide +kernel]
      exact blen_zero
    have e1 : vint (BitVec.ofNat 64 (List.replicate 100 (1 : Int)).length) = [100#8] := vint_small (by decide +kernel)
    have e2 : vint (zig (lmin (List.replicate 100 (1 : Int)))) = [2#8] := by
      rw [show zig (lmin (List.replicate 100 (1 : Int))) = 2#64 by decide +kernel]
      exact vint_small (by decide)
    rw [packB_pos (by decide), hw, e1, e2]
    simp [siz]
  have hw0 : wid (stepsL 100) = 7 := by
    unfold wid
    rw [show (dif (lmin (stepsL 100)) (lmax (stepsL 100))).toNat = 99 by decide +kernel]
    exact blen_at (by decide) (by decide) (by decide)
  have h0 : 4 ≤ fS 0 (stepsL 100) := by
    have := packB_ge (l := stepsL 100) (by omega)
    rw [hw0, hl] at this
    rw [fS_0]
    have : siz 100 7 = 88 := rfl
    omega
  have hr := rns_ne (l := stepsL 100) (by omega)
  have h1 : 6 ≤ fS 1 (stepsL 100) := by
    have a := packB_ge (l := rvs (stepsL 100)) (by rw [rvs_length]; exact hr)
    have b := packB_ge (l := rls (stepsL 100)) (by rw [rls_length]; exact hr)
    rw [fS_1]; omega
  have hd : 0 < (difL (stepsL 100)).length := by rw [difL_length]; omega
  have hr2 := rns_ne hd
  have h3 : 6 ≤ fS 3 (stepsL 100) := by
    have a := packB_ge (l := rvs (difL (stepsL 100))) (by rw [rvs_length]; exact hr2)
    have b := packB_ge (l := rls (difL (stepsL 100))) (by rw [rls_length]; exact hr2)
    rw [fS_3]; omega
  rw [kd_eq]
  by_cases hc : fS 1 (stepsL 100) < fS 0 (stepsL 100)
  · simp only [if_pos hc]
    have hx : fS 2 (stepsL 100) < fS 1 (stepsL 100) := by omega
    have hy : ¬ fS 3 (stepsL 100) < fS 2 (stepsL 100) := by omega
    rw [if_pos hx, if_neg hy]
  · simp only [if_neg hc]
    have hx : fS 2 (stepsL 100) < fS 0 (stepsL 100) := by omega
    have hy : ¬ fS 3 (stepsL 100) < fS 2 (stepsL 100) := by omega
    rw [if_pos hx, if_neg hy]
theorem law_examples (w : World) : Calls Try.prog 9 #[] w (Is w (.bool true)) := by
  haveI : Fct (rvs [7, 7, 7, 2] = [7, 2]) := ⟨rfl⟩
  haveI : Fct (rls [7, 7, 7, 2] = [3, 1]) := ⟨rfl⟩
  haveI : Eqn (expE [7, 2] [3, 1]) (.ok [7, 7, 7, 2]) := ⟨by kernel_rfl⟩
  haveI : Eqn (expE [1, 1] [1, 1]) (.error 1) := ⟨by kernel_rfl⟩
  haveI : Fct (difL [7, 7, 7, 2] = [7, 0, 0, -5]) := ⟨by decide +kernel⟩
  haveI : Fct (sumL [7, 0, 0, -5] = [7, 7, 7, 2]) := ⟨by decide +kernel⟩
  haveI : Eqn (enB []) [0#8, 0#8] := ⟨by rw [en_small (by simp), enc_nil]⟩
  haveI : Eqn (enE []) 0 := ⟨rfl⟩
  haveI : Eqn (kd (stepsL 100)) 2 := ⟨kd_steps⟩
  haveI : Eqn (dcB []) (.error 7) := ⟨rfl⟩
  haveI : Eqn (dcB [4#8]) (.error 5) := ⟨rfl⟩
  have k0 : okI [] := fun x hx => by simp at hx
  have k1 : okI (stepsL 100) := fun x hx => by
    simp only [stepsL, List.mem_map, List.mem_range] at hx
    omega
  have k2 : (stepsL 100).length ≤ 4096 := by simp [stepsL]
  have n1 : ([7, 7, 7, 2] : List Int).length = 4 := rfl
  have n2 : ([7, 0, 0, -5] : List Int).length = 4 := rfl
  refine enter (N := 85) (args := []) Try.func9 rfl rfl rfl (St.refl w) ?_
  repeat' (first
  | refine G_nilC ?_
  | refine G_nilN ?_
  | refine G_nilH ?_
  | (refine G_nil ?_; try clear ri_; try clear ops_)
  | (refine V_op ?_; first | exact True.intro | intro v_ h_ w_ r_ t_ | intro (ops_ : Array Oper) ri_ | intro (b_ : Bool) hb_ | intro v_ h_ | intro (v_ : Value) | intro (b_ : Nat) | (refine ⟨fun hc => ?_, fun hc => ?_⟩ <;> try (exfalso; omega)) | refine ⟨?_, ?_⟩ | intro _ | skip)
  | (refine Is_DQ ?_; first | (apply DQ_k rfl rfl rfl; intro mm) | (apply DQ_x rfl rfl rfl; intro mm)))
  refine GC_loopS (X := Nat × Value) (fun y => y.1 ≤ 100) (fun y s => (4, I ((y.1 : Int) + 1)) :: (3, y.2) :: s) (fun y q => row y.2 3 (stepsL y.1) :: q) (fun y => 100 - y.1) (0, _) (by simp) (by repeat (first | exact trivial | refine And.intro rfl ?_)) ?_ (hm0 := by show row v_ 3 ([] : List Int) :: [] = _; exact rfl)
  rintro ⟨k, q⟩ hk
  simp only at hk ⊢
  have hkl : (stepsL k).length = k := by simp [stepsL]
  haveI : AppN (stepsL k) [(k : Int) + 1] (stepsL (k + 1)) := ⟨by simp [stepsL, List.range_succ]⟩
  by_cases hk2 : k < 100
  · repeat' (first
  | refine G_nilC ?_
  | refine G_nilN ?_
  | refine G_nilH ?_
  | (refine G_nil ?_; try clear ri_; try clear ops_)
  | (refine V_op ?_; first | exact True.intro | intro v_ h_ w_ r_ t_ | intro (ops_ : Array Oper) ri_ | intro (b_ : Bool) hb_ | intro v_ h_ | intro (v_ : Value) | intro (b_ : Nat) | (refine ⟨fun hc => ?_, fun hc => ?_⟩ <;> try (exfalso; omega)) | refine ⟨?_, ?_⟩ | intro _ | skip)
  | (refine Is_DQ ?_; first | (apply DQ_k rfl rfl rfl; intro mm) | (apply DQ_x rfl rfl rfl; intro mm)))
    exact At_roundS (k + 1, _) (by simp only; omega) (by simp only; omega) (by repeat (first | exact trivial | refine And.intro rfl ?_)) (by repeat (first | exact trivial | refine And.intro rfl ?_))
  · obtain rfl : k = 100 := by omega
    repeat' (first
  | refine G_nilC ?_
  | refine G_nilN ?_
  | refine G_nilH ?_
  | (refine G_nil ?_; try clear ri_; try clear ops_)
  | (refine V_op ?_; first | exact True.intro | intro v_ h_ w_ r_ t_ | intro (ops_ : Array Oper) ri_ | intro (b_ : Bool) hb_ | intro v_ h_ | intro (v_ : Value) | intro (b_ : Nat) | (refine ⟨fun hc => ?_, fun hc => ?_⟩ <;> try (exfalso; omega)) | refine ⟨?_, ?_⟩ | intro _ | skip)
  | (refine Is_DQ ?_; first | (apply DQ_k rfl rfl rfl; intro mm) | (apply DQ_x rfl rfl rfl; intro mm)))
    refine ret_ rfl (by repeat (first | exact ResAll.nil | (apply ResAll.cons; first | exact .tmp rfl | exact .cell rfl rfl | exact .one rfl))) fun w' h' => ?_
    exact .mk rfl h'
instance {w0 : World} {O : List Nat} {m : List As} : CallV Try.prog w0 O m 9 [] True (.bool true) := ⟨fun _ w _ => law_examples w⟩
end Go.Proofs.Ytaegfjolemehaaa
