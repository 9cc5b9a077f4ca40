/- Runs: decoding, in the reference; what the laws call. -/
import Derived.Test.YtaegfjolemehaaaRni
set_option linter.unusedVariables false
set_option linter.unusedSimpArgs false
set_option maxRecDepth 100000
set_option maxHeartbeats 4000000
namespace Go.Proofs.Ytaegfjolemehaaa
open Go.RowKit
attribute [local irreducible] G GC At wpL DR XPost CPost Cut GA GAR GAX GAt NxA GH GHR NxH
attribute [local instance 2000] rdR_tail

def dcA (r : Except Int (List Int × Nat)) (i : Sl Int × Sl (BitVec 8)) : Value := match r with
  | .error e => .agg #[.slice none 0 0, .slice none 0 0, I e]
  | .ok _ => .agg #[i.1.v, i.2.v, I 0]
theorem ref_Decode (w0 : World) (O : List Nat) (m : List As) (v : Value) (bs : List (BitVec 8)) [h : RdOld w0 O v bs] (r : Except Int (List Int × Nat)) (hr : dcB bs = r) (w : World) (hw : St w0 O m w) :
    Calls Try.prog 27 #[v] w (RetD w0 O m (dcP bs r) (dcA r) (fun i w O => Tru w O i)) := by
  have hlen := h.rd.len_le
  by_cases h0 : bs.length = 0
  · rw [dcB, if_pos h0] at hr
    subst hr
    refine enterF (N := 78) (args := [v]) Try.func27 rfl rfl rfl hw ?_
    repeat' (first
  | refine G_nilC ?_
  | refine G_nilN ?_
  | refine G_nilH ?_
  | (refine G_nil ?_; try clear ri_; try clear ops_)
  | (refine V_op ?_; first | exact True.intro | intro v_ h_ w_ r_ t_ | intro (ops_ : Array Oper) ri_ | intro (b_ : Bool) hb_ | intro v_ h_ | intro (v_ : Value) | intro (b_ : Nat) | (refine ⟨fun hc => ?_, fun hc => ?_⟩ <;> try (exfalso; omega)) | refine ⟨?_, ?_⟩ | intro _ | skip)
  | (refine Is_DQ ?_; first | (apply DQ_k rfl rfl rfl; intro mm) | (apply DQ_x rfl rfl rfl; intro mm)))
    refine ret_ rfl (by repeat (first | exact ResAll.nil | (apply ResAll.cons; first | exact .tmp rfl | exact .cell rfl rfl | exact .one rfl))) fun w' h' => ?_
    exact .mk (slNil, slNil) trivial rfl h' (by intro _; exact inferInstance)
  · haveI : Fct (0 < bs.length) := ⟨by omega⟩
    have hg0 : bs.getD 0 0#8 = bs[0] := by rw [List.getD_eq_getElem?_getD, List.getElem?_eq_getElem (by omega)]; rfl
    rw [dcB, if_neg h0, hg0] at hr
    by_cases h3 : 3 < (bs[0]'(by omega)).toNat
    · rw [if_pos h3] at hr
      subst hr
      refine enterF (N := 78) (args := [v]) Try.func27 rfl rfl rfl hw ?_
      repeat' (first
  | refine G_nilC ?_
  | refine G_nilN ?_
  | refine G_nilH ?_
  | (refine G_nil ?_; try clear ri_; try clear ops_)
  | (refine V_op ?_; first | exact True.intro | intro v_ h_ w_ r_ t_ | intro (ops_ : Array Oper) ri_ | intro (b_ : Bool) hb_ | intro v_ h_ | intro (v_ : Value) | intro (b_ : Nat) | (refine ⟨fun hc => ?_, fun hc => ?_⟩ <;> try (exfalso; omega)) | refine ⟨?_, ?_⟩ | intro _ | skip)
  | (refine Is_DQ ?_; first | (apply DQ_k rfl rfl rfl; intro mm) | (apply DQ_x rfl rfl rfl; intro mm)))
      refine ret_ rfl (by repeat (first | exact ResAll.nil | (apply ResAll.cons; first | exact .tmp rfl | exact .cell rfl rfl | exact .one rfl))) fun w' h' => ?_
      exact .mk (slNil, slNil) trivial rfl h' (by intro _; exact inferInstance)
    · rw [if_neg h3] at hr
      generalize hk : (bs[0]'(by omega)).toNat = k at hr h3
      haveI hrest : RdOld w0 O (cut (BitVec 8) v 1 bs.length) (bs.drop 1) := h.rest (by omega)
      rcases (by omega : k = 0 ∨ k = 1 ∨ k = 2 ∨ k = 3) with rfl | rfl | rfl | rfl
      · refine enterF (N := 78) (args := [v]) Try.func27 rfl rfl rfl hw ?_
        repeat' (first
  | refine G_nilC ?_
  | refine G_nilN ?_
  | refine G_nilH ?_
  | (refine G_nil ?_; try clear ri_; try clear ops_)
  | (refine V_op ?_; first | exact True.intro | intro v_ h_ w_ r_ t_ | intro (ops_ : Array Oper) ri_ | intro (b_ : Bool) hb_ | intro v_ h_ | intro (v_ : Value) | intro (b_ : Nat) | (refine ⟨fun hc => ?_, fun hc => ?_⟩ <;> try (exfalso; omega)) | refine ⟨?_, ?_⟩ | intro _ | skip)
  | (refine Is_DQ ?_; first | (apply DQ_k rfl rfl rfl; intro mm) | (apply DQ_x rfl rfl rfl; intro mm)))
        rcases hu : unpB (bs.drop 1) with e | ⟨l0, n0⟩
        · rw [dcGo, hu] at hr
          simp only at hr
          subst hr
          have he := unp_err hu
          simp only [hu, unA, unL]
          repeat' (first
  | refine G_nilC ?_
  | refine G_nilN ?_
  | refine G_nilH ?_
  | (refine G_nil ?_; try clear ri_; try clear ops_)
  | (refine V_op ?_; first | exact True.intro | intro v_ h_ w_ r_ t_ | intro (ops_ : Array Oper) ri_ | intro (b_ : Bool) hb_ | intro v_ h_ | intro (v_ : Value) | intro (b_ : Nat) | (refine ⟨fun hc => ?_, fun hc => ?_⟩ <;> try (exfalso; omega)) | refine ⟨?_, ?_⟩ | intro _ | skip)
  | (refine Is_DQ ?_; first | (apply DQ_k rfl rfl rfl; intro mm) | (apply DQ_x rfl rfl rfl; intro mm)))
          refine ret_ rfl (by repeat (first | exact ResAll.nil | (apply ResAll.cons; first | exact .tmp rfl | exact .cell rfl rfl | exact .one rfl))) fun w' h' => ?_
          exact .mk (slNil, slNil) trivial rfl h' (by intro _; exact inferInstance)
        · rw [dcGo, hu] at hr
          simp only at hr
          have hc1 := unp_canon' hu
          have hc2 := unp_off hu
          rw [List.length_drop] at hc2
          obtain ⟨⟨o1, o2⟩, _⟩ := hc1
          simp only [hu, unA, unL]
          obtain ⟨q0, hq⟩ : ∃ z, z = v_ := ⟨v_, rfl⟩
          subst hq
          haveI hr1 : RdOld w0 O (restV (cut (BitVec 8) v 1 bs.length) (bs.drop 1)) (bs.drop (1 + n0)) := by
            have := rdOld_restV hrest hu
            rwa [List.drop_drop] at this
          rw [dcGo, dcK, List.nil_append, show lres 0 [l0] = some l0 by simp [lres, lresA]] at hr
          simp only at hr
          have hln : (l0).length ≤ 4096 := by first | exact o1 | simpa using o1
          have hlo : okI (l0) := by first | exact o2 | exact okI_sum o2
          have hT : (bs.drop 0).take (bs.length - (bs.drop (1 + n0)).length - 0) = bs.take ((1 + n0)) := by
            rw [List.drop_zero, List.length_drop]
            congr 1; omega
          haveI : Eqn (enB l0) (encB l0) := ⟨en_small hln⟩
          haveI : Eqn (enE l0) 0 := ⟨ee_small hln⟩
          have hdl : (bs.drop (1 + n0)).length = bs.length - ((1 + n0)) := by simp
          repeat' (first
  | refine G_nilC ?_
  | refine G_nilN ?_
  | refine G_nilH ?_
  | (refine G_nil ?_; try clear ri_; try clear ops_)
  | (refine V_op ?_; first | exact True.intro | intro v_ h_ w_ r_ t_ | intro (ops_ : Array Oper) ri_ | intro (b_ : Bool) hb_ | intro v_ h_ | intro (v_ : Value) | intro (b_ : Nat) | (refine ⟨fun hc => ?_, fun hc => ?_⟩ <;> try (exfalso; omega)) | refine ⟨?_, ?_⟩ | intro _ | skip)
  | (refine Is_DQ ?_; first | (apply DQ_k rfl rfl rfl; intro mm) | (apply DQ_x rfl rfl rfl; intro mm)))
          · rw [hT] at hc
            rw [if_neg hc] at hr
            subst hr
            refine ret_ rfl (by repeat (first | exact ResAll.nil | (apply ResAll.cons; first | exact .tmp rfl | exact .cell rfl rfl | exact .one rfl))) fun w' h' => ?_
            exact .mk (slNil, slNil) trivial rfl h' (by intro _; exact inferInstance)
          · rw [hT] at hc
            rw [if_pos (Classical.not_not.1 hc)] at hr
            subst hr
            haveI := hr1.isOne
            (first | refine G_frz q0 ?_ | refine GC_frz q0 ?_ | refine At_frz q0 ?_); intro w_ _ _ _
            refine ret_ rfl (by repeat (first | exact ResAll.nil | (apply ResAll.cons; first | exact .tmp rfl | exact .cell rfl rfl | exact .one rfl))) fun w' h' => ?_
            exact .mk (slOf q0 l0, slOf (restV (cut (BitVec 8) v 1 bs.length) (bs.drop 1)) (bs.drop (1 + n0))) ⟨rfl, rfl⟩ rfl h' (by intro _; exact inferInstance)
      · refine enterF (N := 78) (args := [v]) Try.func27 rfl rfl rfl hw ?_
        repeat' (first
  | refine G_nilC ?_
  | refine G_nilN ?_
  | refine G_nilH ?_
  | (refine G_nil ?_; try clear ri_; try clear ops_)
  | (refine V_op ?_; first | exact True.intro | intro v_ h_ w_ r_ t_ | intro (ops_ : Array Oper) ri_ | intro (b_ : Bool) hb_ | intro v_ h_ | intro (v_ : Value) | intro (b_ : Nat) | (refine ⟨fun hc => ?_, fun hc => ?_⟩ <;> try (exfalso; omega)) | refine ⟨?_, ?_⟩ | intro _ | skip)
  | (refine Is_DQ ?_; first | (apply DQ_k rfl rfl rfl; intro mm) | (apply DQ_x rfl rfl rfl; intro mm)))
        rcases hu : unpB (bs.drop 1) with e | ⟨l0, n0⟩
        · rw [dcGo, hu] at hr
          simp only at hr
          subst hr
          have he := unp_err hu
          simp only [hu, unA, unL]
          repeat' (first
  | refine G_nilC ?_
  | refine G_nilN ?_
  | refine G_nilH ?_
  | (refine G_nil ?_; try clear ri_; try clear ops_)
  | (refine V_op ?_; first | exact True.intro | intro v_ h_ w_ r_ t_ | intro (ops_ : Array Oper) ri_ | intro (b_ : Bool) hb_ | intro v_ h_ | intro (v_ : Value) | intro (b_ : Nat) | (refine ⟨fun hc => ?_, fun hc => ?_⟩ <;> try (exfalso; omega)) | refine ⟨?_, ?_⟩ | intro _ | skip)
  | (refine Is_DQ ?_; first | (apply DQ_k rfl rfl rfl; intro mm) | (apply DQ_x rfl rfl rfl; intro mm)))
          refine ret_ rfl (by repeat (first | exact ResAll.nil | (apply ResAll.cons; first | exact .tmp rfl | exact .cell rfl rfl | exact .one rfl))) fun w' h' => ?_
          exact .mk (slNil, slNil) trivial rfl h' (by intro _; exact inferInstance)
        · rw [dcGo, hu] at hr
          simp only at hr
          have hc1 := unp_canon' hu
          have hc2 := unp_off hu
          rw [List.length_drop] at hc2
          obtain ⟨⟨o1, o2⟩, _⟩ := hc1
          simp only [hu, unA, unL]
          obtain ⟨q0, hq⟩ : ∃ z, z = v_ := ⟨v_, rfl⟩
          subst hq
          haveI hr1 : RdOld w0 O (restV (cut (BitVec 8) v 1 bs.length) (bs.drop 1)) (bs.drop (1 + n0)) := by
            have := rdOld_restV hrest hu
            rwa [List.drop_drop] at this
          repeat' (first
  | refine G_nilC ?_
  | refine G_nilN ?_
  | refine G_nilH ?_
  | (refine G_nil ?_; try clear ri_; try clear ops_)
  | (refine V_op ?_; first | exact True.intro | intro v_ h_ w_ r_ t_ | intro (ops_ : Array Oper) ri_ | intro (b_ : Bool) hb_ | intro v_ h_ | intro (v_ : Value) | intro (b_ : Nat) | (refine ⟨fun hc => ?_, fun hc => ?_⟩ <;> try (exfalso; omega)) | refine ⟨?_, ?_⟩ | intro _ | skip)
  | (refine Is_DQ ?_; first | (apply DQ_k rfl rfl rfl; intro mm) | (apply DQ_x rfl rfl rfl; intro mm)))
          rcases hu2 : unpB (bs.drop (1 + n0)) with e | ⟨l1, n1⟩
          · rw [dcGo, hu2] at hr
            simp only at hr
            subst hr
            have he := unp_err hu2
            simp only [hu2, unA, unL]
            repeat' (first
  | refine G_nilC ?_
  | refine G_nilN ?_
  | refine G_nilH ?_
  | (refine G_nil ?_; try clear ri_; try clear ops_)
  | (refine V_op ?_; first | exact True.intro | intro v_ h_ w_ r_ t_ | intro (ops_ : Array Oper) ri_ | intro (b_ : Bool) hb_ | intro v_ h_ | intro (v_ : Value) | intro (b_ : Nat) | (refine ⟨fun hc => ?_, fun hc => ?_⟩ <;> try (exfalso; omega)) | refine ⟨?_, ?_⟩ | intro _ | skip)
  | (refine Is_DQ ?_; first | (apply DQ_k rfl rfl rfl; intro mm) | (apply DQ_x rfl rfl rfl; intro mm)))
            refine ret_ rfl (by repeat (first | exact ResAll.nil | (apply ResAll.cons; first | exact .tmp rfl | exact .cell rfl rfl | exact .one rfl))) fun w' h' => ?_
            exact .mk (slNil, slNil) trivial rfl h' (by intro _; exact inferInstance)
          · rw [dcGo, hu2] at hr
            simp only [dcGo, List.nil_append, List.cons_append] at hr
            have hc3 := unp_canon' hu2
            have hc4 := unp_off hu2
            rw [List.length_drop] at hc4
            obtain ⟨⟨o3, o4⟩, _⟩ := hc3
            simp only [hu2, unA, unL]
            obtain ⟨q1, hq⟩ : ∃ z, z = v_ := ⟨v_, rfl⟩
            subst hq
            haveI hr2 : RdOld w0 O (restV (restV (cut (BitVec 8) v 1 bs.length) (bs.drop 1)) (bs.drop (1 + n0))) (bs.drop (1 + n0 + n1)) := by
              have := rdOld_restV hr1 hu2
              rwa [List.drop_drop] at this
            repeat' (first
  | refine G_nilC ?_
  | refine G_nilN ?_
  | refine G_nilH ?_
  | (refine G_nil ?_; try clear ri_; try clear ops_)
  | (refine V_op ?_; first | exact True.intro | intro v_ h_ w_ r_ t_ | intro (ops_ : Array Oper) ri_ | intro (b_ : Bool) hb_ | intro v_ h_ | intro (v_ : Value) | intro (b_ : Nat) | (refine ⟨fun hc => ?_, fun hc => ?_⟩ <;> try (exfalso; omega)) | refine ⟨?_, ?_⟩ | intro _ | skip)
  | (refine Is_DQ ?_; first | (apply DQ_k rfl rfl rfl; intro mm) | (apply DQ_x rfl rfl rfl; intro mm)))
            rcases hx : expE l0 l1 with e | x
            · have he := exp_err hx
              rw [dcK, show lres 1 [l0, l1] = none by simp [lres, lresA, hx]] at hr
              simp only at hr
              subst hr
              simp only [hx, expA, expL]
              repeat' (first
  | refine G_nilC ?_
  | refine G_nilN ?_
  | refine G_nilH ?_
  | (refine G_nil ?_; try clear ri_; try clear ops_)
  | (refine V_op ?_; first | exact True.intro | intro v_ h_ w_ r_ t_ | intro (ops_ : Array Oper) ri_ | intro (b_ : Bool) hb_ | intro v_ h_ | intro (v_ : Value) | intro (b_ : Nat) | (refine ⟨fun hc => ?_, fun hc => ?_⟩ <;> try (exfalso; omega)) | refine ⟨?_, ?_⟩ | intro _ | skip)
  | (refine Is_DQ ?_; first | (apply DQ_k rfl rfl rfl; intro mm) | (apply DQ_x rfl rfl rfl; intro mm)))
              refine ret_ rfl (by repeat (first | exact ResAll.nil | (apply ResAll.cons; first | exact .tmp rfl | exact .cell rfl rfl | exact .one rfl))) fun w' h' => ?_
              exact .mk (slNil, slNil) trivial rfl h' (by intro _; exact inferInstance)
            · have hxl := exp_len hx
              have hxo : okI x := lres_ok (k := 1) (L := [l0, l1]) (by
                intro y hy
                simp only [List.mem_cons, List.not_mem_nil, or_false] at hy
                rcases hy with rfl | rfl
                · exact o2
                · exact o4) (by simp [lres, lresA, hx])
              rw [dcK, show lres 1 [l0, l1] = some x by simp [lres, lresA, hx]] at hr
              simp only at hr
              simp only [hx, expA, expL]
              obtain ⟨q2, hq⟩ : ∃ z, z = v_ := ⟨v_, rfl⟩
              subst hq
              have hln : (x).length ≤ 4096 := by first | exact hxl | simpa using hxl
              have hlo : okI (x) := by first | exact hxo | exact okI_sum hxo
              have hT : (bs.drop 0).take (bs.length - (bs.drop (1 + n0 + n1)).length - 0) = bs.take ((1 + n0 + n1)) := by
                rw [List.drop_zero, List.length_drop]
                congr 1; omega
              haveI : Eqn (enB x) (encB x) := ⟨en_small hln⟩
              haveI : Eqn (enE x) 0 := ⟨ee_small hln⟩
              have hdl : (bs.drop (1 + n0 + n1)).length = bs.length - ((1 + n0 + n1)) := by simp
              repeat' (first
  | refine G_nilC ?_
  | refine G_nilN ?_
  | refine G_nilH ?_
  | (refine G_nil ?_; try clear ri_; try clear ops_)
  | (refine V_op ?_; first | exact True.intro | intro v_ h_ w_ r_ t_ | intro (ops_ : Array Oper) ri_ | intro (b_ : Bool) hb_ | intro v_ h_ | intro (v_ : Value) | intro (b_ : Nat) | (refine ⟨fun hc => ?_, fun hc => ?_⟩ <;> try (exfalso; omega)) | refine ⟨?_, ?_⟩ | intro _ | skip)
  | (refine Is_DQ ?_; first | (apply DQ_k rfl rfl rfl; intro mm) | (apply DQ_x rfl rfl rfl; intro mm)))
              · rw [hT] at hc
                rw [if_neg hc] at hr
                subst hr
                refine ret_ rfl (by repeat (first | exact ResAll.nil | (apply ResAll.cons; first | exact .tmp rfl | exact .cell rfl rfl | exact .one rfl))) fun w' h' => ?_
                exact .mk (slNil, slNil) trivial rfl h' (by intro _; exact inferInstance)
              · rw [hT] at hc
                rw [if_pos (Classical.not_not.1 hc)] at hr
                subst hr
                haveI := hr2.isOne
                (first | refine G_frz q2 ?_ | refine GC_frz q2 ?_ | refine At_frz q2 ?_); intro w_ _ _ _
                refine ret_ rfl (by repeat (first | exact ResAll.nil | (apply ResAll.cons; first | exact .tmp rfl | exact .cell rfl rfl | exact .one rfl))) fun w' h' => ?_
                exact .mk (slOf q2 x, slOf (restV (restV (cut (BitVec 8) v 1 bs.length) (bs.drop 1)) (bs.drop (1 + n0))) (bs.drop (1 + n0 + n1))) ⟨rfl, rfl⟩ rfl h' (by intro _; exact inferInstance)
      · refine enterF (N := 78) (args := [v]) Try.func27 rfl rfl rfl hw ?_
        repeat' (first
  | refine G_nilC ?_
  | refine G_nilN ?_
  | refine G_nilH ?_
  | (refine G_nil ?_; try clear ri_; try clear ops_)
  | (refine V_op ?_; first | exact True.intro | intro v_ h_ w_ r_ t_ | intro (ops_ : Array Oper) ri_ | intro (b_ : Bool) hb_ | intro v_ h_ | intro (v_ : Value) | intro (b_ : Nat) | (refine ⟨fun hc => ?_, fun hc => ?_⟩ <;> try (exfalso; omega)) | refine ⟨?_, ?_⟩ | intro _ | skip)
  | (refine Is_DQ ?_; first | (apply DQ_k rfl rfl rfl; intro mm) | (apply DQ_x rfl rfl rfl; intro mm)))
        rcases hu : unpB (bs.drop 1) with e | ⟨l0, n0⟩
        · rw [dcGo, hu] at hr
          simp only at hr
          subst hr
          have he := unp_err hu
          simp only [hu, unA, unL]
          repeat' (first
  | refine G_nilC ?_
  | refine G_nilN ?_
  | refine G_nilH ?_
  | (refine G_nil ?_; try clear ri_; try clear ops_)
  | (refine V_op ?_; first | exact True.intro | intro v_ h_ w_ r_ t_ | intro (ops_ : Array Oper) ri_ | intro (b_ : Bool) hb_ | intro v_ h_ | intro (v_ : Value) | intro (b_ : Nat) | (refine ⟨fun hc => ?_, fun hc => ?_⟩ <;> try (exfalso; omega)) | refine ⟨?_, ?_⟩ | intro _ | skip)
  | (refine Is_DQ ?_; first | (apply DQ_k rfl rfl rfl; intro mm) | (apply DQ_x rfl rfl rfl; intro mm)))
          refine ret_ rfl (by repeat (first | exact ResAll.nil | (apply ResAll.cons; first | exact .tmp rfl | exact .cell rfl rfl | exact .one rfl))) fun w' h' => ?_
          exact .mk (slNil, slNil) trivial rfl h' (by intro _; exact inferInstance)
        · rw [dcGo, hu] at hr
          simp only at hr
          have hc1 := unp_canon' hu
          have hc2 := unp_off hu
          rw [List.length_drop] at hc2
          obtain ⟨⟨o1, o2⟩, _⟩ := hc1
          simp only [hu, unA, unL]
          obtain ⟨q0, hq⟩ : ∃ z, z = v_ := ⟨v_, rfl⟩
          subst hq
          haveI hr1 : RdOld w0 O (restV (cut (BitVec 8) v 1 bs.length) (bs.drop 1)) (bs.drop (1 + n0)) := by
            have := rdOld_restV hrest hu
            rwa [List.drop_drop] at this
          rw [dcGo, dcK, List.nil_append, show lres 2 [l0] = some (sumL l0) by simp [lres, lresA]] at hr
          simp only at hr
          have hln : ((sumL l0)).length ≤ 4096 := by first | exact o1 | simpa using o1
          have hlo : okI ((sumL l0)) := by first | exact o2 | exact okI_sum o2
          have okh : True → okI l0 := fun _ => o2
          clear o2
          repeat' (first
  | refine G_nilC ?_
  | refine G_nilN ?_
  | refine G_nilH ?_
  | (refine G_nil ?_; try clear ri_; try clear ops_)
  | (refine V_op ?_; first | exact True.intro | intro v_ h_ w_ r_ t_ | intro (ops_ : Array Oper) ri_ | intro (b_ : Bool) hb_ | intro v_ h_ | intro (v_ : Value) | intro (b_ : Nat) | (refine ⟨fun hc => ?_, fun hc => ?_⟩ <;> try (exfalso; omega)) | refine ⟨?_, ?_⟩ | intro _ | skip)
  | (refine Is_DQ ?_; first | (apply DQ_k rfl rfl rfl; intro mm) | (apply DQ_x rfl rfl rfl; intro mm)))
          have ok2 := okh trivial
          refine G_callR rfl rfl rfl fun q3 _ => ?_
          have hT : (bs.drop 0).take (bs.length - (bs.drop (1 + n0)).length - 0) = bs.take ((1 + n0)) := by
            rw [List.drop_zero, List.length_drop]
            congr 1; omega
          haveI : Eqn (enB (sumL l0)) (encB (sumL l0)) := ⟨en_small hln⟩
          haveI : Eqn (enE (sumL l0)) 0 := ⟨ee_small hln⟩
          have hdl : (bs.drop (1 + n0)).length = bs.length - ((1 + n0)) := by simp
          repeat' (first
  | refine G_nilC ?_
  | refine G_nilN ?_
  | refine G_nilH ?_
  | (refine G_nil ?_; try clear ri_; try clear ops_)
  | (refine V_op ?_; first | exact True.intro | intro v_ h_ w_ r_ t_ | intro (ops_ : Array Oper) ri_ | intro (b_ : Bool) hb_ | intro v_ h_ | intro (v_ : Value) | intro (b_ : Nat) | (refine ⟨fun hc => ?_, fun hc => ?_⟩ <;> try (exfalso; omega)) | refine ⟨?_, ?_⟩ | intro _ | skip)
  | (refine Is_DQ ?_; first | (apply DQ_k rfl rfl rfl; intro mm) | (apply DQ_x rfl rfl rfl; intro mm)))
          · rw [hT] at hc
            rw [if_neg hc] at hr
            subst hr
            refine ret_ rfl (by repeat (first | exact ResAll.nil | (apply ResAll.cons; first | exact .tmp rfl | exact .cell rfl rfl | exact .one rfl))) fun w' h' => ?_
            exact .mk (slNil, slNil) trivial rfl h' (by intro _; exact inferInstance)
          · rw [hT] at hc
            rw [if_pos (Classical.not_not.1 hc)] at hr
            subst hr
            haveI := hr1.isOne
            (first | refine G_frz q3 ?_ | refine GC_frz q3 ?_ | refine At_frz q3 ?_); intro w_ _ _ _
            refine ret_ rfl (by repeat (first | exact ResAll.nil | (apply ResAll.cons; first | exact .tmp rfl | exact .cell rfl rfl | exact .one rfl))) fun w' h' => ?_
            exact .mk (slOf q3 (sumL l0), slOf (restV (cut (BitVec 8) v 1 bs.length) (bs.drop 1)) (bs.drop (1 + n0))) ⟨rfl, rfl⟩ rfl h' (by intro _; exact inferInstance)
      · refine enterF (N := 78) (args := [v]) Try.func27 rfl rfl rfl hw ?_
        repeat' (first
  | refine G_nilC ?_
  | refine G_nilN ?_
  | refine G_nilH ?_
  | (refine G_nil ?_; try clear ri_; try clear ops_)
  | (refine V_op ?_; first | exact True.intro | intro v_ h_ w_ r_ t_ | intro (ops_ : Array Oper) ri_ | intro (b_ : Bool) hb_ | intro v_ h_ | intro (v_ : Value) | intro (b_ : Nat) | (refine ⟨fun hc => ?_, fun hc => ?_⟩ <;> try (exfalso; omega)) | refine ⟨?_, ?_⟩ | intro _ | skip)
  | (refine Is_DQ ?_; first | (apply DQ_k rfl rfl rfl; intro mm) | (apply DQ_x rfl rfl rfl; intro mm)))
        rcases hu : unpB (bs.drop 1) with e | ⟨l0, n0⟩
        · rw [dcGo, hu] at hr
          simp only at hr
          subst hr
          have he := unp_err hu
          simp only [hu, unA, unL]
          repeat' (first
  | refine G_nilC ?_
  | refine G_nilN ?_
  | refine G_nilH ?_
  | (refine G_nil ?_; try clear ri_; try clear ops_)
  | (refine V_op ?_; first | exact True.intro | intro v_ h_ w_ r_ t_ | intro (ops_ : Array Oper) ri_ | intro (b_ : Bool) hb_ | intro v_ h_ | intro (v_ : Value) | intro (b_ : Nat) | (refine ⟨fun hc => ?_, fun hc => ?_⟩ <;> try (exfalso; omega)) | refine ⟨?_, ?_⟩ | intro _ | skip)
  | (refine Is_DQ ?_; first | (apply DQ_k rfl rfl rfl; intro mm) | (apply DQ_x rfl rfl rfl; intro mm)))
          refine ret_ rfl (by repeat (first | exact ResAll.nil | (apply ResAll.cons; first | exact .tmp rfl | exact .cell rfl rfl | exact .one rfl))) fun w' h' => ?_
          exact .mk (slNil, slNil) trivial rfl h' (by intro _; exact inferInstance)
        · rw [dcGo, hu] at hr
          simp only at hr
          have hc1 := unp_canon' hu
          have hc2 := unp_off hu
          rw [List.length_drop] at hc2
          obtain ⟨⟨o1, o2⟩, _⟩ := hc1
          simp only [hu, unA, unL]
          obtain ⟨q0, hq⟩ : ∃ z, z = v_ := ⟨v_, rfl⟩
          subst hq
          haveI hr1 : RdOld w0 O (restV (cut (BitVec 8) v 1 bs.length) (bs.drop 1)) (bs.drop (1 + n0)) := by
            have := rdOld_restV hrest hu
            rwa [List.drop_drop] at this
          repeat' (first
  | refine G_nilC ?_
  | refine G_nilN ?_
  | refine G_nilH ?_
  | (refine G_nil ?_; try clear ri_; try clear ops_)
  | (refine V_op ?_; first | exact True.intro | intro v_ h_ w_ r_ t_ | intro (ops_ : Array Oper) ri_ | intro (b_ : Bool) hb_ | intro v_ h_ | intro (v_ : Value) | intro (b_ : Nat) | (refine ⟨fun hc => ?_, fun hc => ?_⟩ <;> try (exfalso; omega)) | refine ⟨?_, ?_⟩ | intro _ | skip)
  | (refine Is_DQ ?_; first | (apply DQ_k rfl rfl rfl; intro mm) | (apply DQ_x rfl rfl rfl; intro mm)))
          rcases hu2 : unpB (bs.drop (1 + n0)) with e | ⟨l1, n1⟩
          · rw [dcGo, hu2] at hr
            simp only at hr
            subst hr
            have he := unp_err hu2
            simp only [hu2, unA, unL]
            repeat' (first
  | refine G_nilC ?_
  | refine G_nilN ?_
  | refine G_nilH ?_
  | (refine G_nil ?_; try clear ri_; try clear ops_)
  | (refine V_op ?_; first | exact True.intro | intro v_ h_ w_ r_ t_ | intro (ops_ : Array Oper) ri_ | intro (b_ : Bool) hb_ | intro v_ h_ | intro (v_ : Value) | intro (b_ : Nat) | (refine ⟨fun hc => ?_, fun hc => ?_⟩ <;> try (exfalso; omega)) | refine ⟨?_, ?_⟩ | intro _ | skip)
  | (refine Is_DQ ?_; first | (apply DQ_k rfl rfl rfl; intro mm) | (apply DQ_x rfl rfl rfl; intro mm)))
            refine ret_ rfl (by repeat (first | exact ResAll.nil | (apply ResAll.cons; first | exact .tmp rfl | exact .cell rfl rfl | exact .one rfl))) fun w' h' => ?_
            exact .mk (slNil, slNil) trivial rfl h' (by intro _; exact inferInstance)
          · rw [dcGo, hu2] at hr
            simp only [dcGo, List.nil_append, List.cons_append] at hr
            have hc3 := unp_canon' hu2
            have hc4 := unp_off hu2
            rw [List.length_drop] at hc4
            obtain ⟨⟨o3, o4⟩, _⟩ := hc3
            simp only [hu2, unA, unL]
            obtain ⟨q1, hq⟩ : ∃ z, z = v_ := ⟨v_, rfl⟩
            subst hq
            haveI hr2 : RdOld w0 O (restV (restV (cut (BitVec 8) v 1 bs.length) (bs.drop 1)) (bs.drop (1 + n0))) (bs.drop (1 + n0 + n1)) := by
              have := rdOld_restV hr1 hu2
              rwa [List.drop_drop] at this
            repeat' (first
  | refine G_nilC ?_
  | refine G_nilN ?_
  | refine G_nilH ?_
  | (refine G_nil ?_; try clear ri_; try clear ops_)
  | (refine V_op ?_; first | exact True.intro | intro v_ h_ w_ r_ t_ | intro (ops_ : Array Oper) ri_ | intro (b_ : Bool) hb_ | intro v_ h_ | intro (v_ : Value) | intro (b_ : Nat) | (refine ⟨fun hc => ?_, fun hc => ?_⟩ <;> try (exfalso; omega)) | refine ⟨?_, ?_⟩ | intro _ | skip)
  | (refine Is_DQ ?_; first | (apply DQ_k rfl rfl rfl; intro mm) | (apply DQ_x rfl rfl rfl; intro mm)))
            rcases hx : expE l0 l1 with e | x
            · have he := exp_err hx
              rw [dcK, show lres 3 [l0, l1] = none by simp [lres, lresA, hx]] at hr
              simp only at hr
              subst hr
              simp only [hx, expA, expL]
              repeat' (first
  | refine G_nilC ?_
  | refine G_nilN ?_
  | refine G_nilH ?_
  | (refine G_nil ?_; try clear ri_; try clear ops_)
  | (refine V_op ?_; first | exact True.intro | intro v_ h_ w_ r_ t_ | intro (ops_ : Array Oper) ri_ | intro (b_ : Bool) hb_ | intro v_ h_ | intro (v_ : Value) | intro (b_ : Nat) | (refine ⟨fun hc => ?_, fun hc => ?_⟩ <;> try (exfalso; omega)) | refine ⟨?_, ?_⟩ | intro _ | skip)
  | (refine Is_DQ ?_; first | (apply DQ_k rfl rfl rfl; intro mm) | (apply DQ_x rfl rfl rfl; intro mm)))
              refine ret_ rfl (by repeat (first | exact ResAll.nil | (apply ResAll.cons; first | exact .tmp rfl | exact .cell rfl rfl | exact .one rfl))) fun w' h' => ?_
              exact .mk (slNil, slNil) trivial rfl h' (by intro _; exact inferInstance)
            · have hxl := exp_len hx
              have hxo : okI x := lres_ok (k := 1) (L := [l0, l1]) (by
                intro y hy
                simp only [List.mem_cons, List.not_mem_nil, or_false] at hy
                rcases hy with rfl | rfl
                · exact o2
                · exact o4) (by simp [lres, lresA, hx])
              rw [dcK, show lres 3 [l0, l1] = some (sumL x) by simp [lres, lresA, hx]] at hr
              simp only at hr
              simp only [hx, expA, expL]
              obtain ⟨q2, hq⟩ : ∃ z, z = v_ := ⟨v_, rfl⟩
              subst hq
              have hln : ((sumL x)).length ≤ 4096 := by first | exact hxl | simpa using hxl
              have hlo : okI ((sumL x)) := by first | exact hxo | exact okI_sum hxo
              have okh : True → okI x := fun _ => hxo
              clear hxo
              repeat' (first
  | refine G_nilC ?_
  | refine G_nilN ?_
  | refine G_nilH ?_
  | (refine G_nil ?_; try clear ri_; try clear ops_)
  | (refine V_op ?_; first | exact True.intro | intro v_ h_ w_ r_ t_ | intro (ops_ : Array Oper) ri_ | intro (b_ : Bool) hb_ | intro v_ h_ | intro (v_ : Value) | intro (b_ : Nat) | (refine ⟨fun hc => ?_, fun hc => ?_⟩ <;> try (exfalso; omega)) | refine ⟨?_, ?_⟩ | intro _ | skip)
  | (refine Is_DQ ?_; first | (apply DQ_k rfl rfl rfl; intro mm) | (apply DQ_x rfl rfl rfl; intro mm)))
              have ok2 := okh trivial
              refine G_callR rfl rfl rfl fun q3 _ => ?_
              have hT : (bs.drop 0).take (bs.length - (bs.drop (1 + n0 + n1)).length - 0) = bs.take ((1 + n0 + n1)) := by
                rw [List.drop_zero, List.length_drop]
                congr 1; omega
              haveI : Eqn (enB (sumL x)) (encB (sumL x)) := ⟨en_small hln⟩
              haveI : Eqn (enE (sumL x)) 0 := ⟨ee_small hln⟩
              have hdl : (bs.drop (1 + n0 + n1)).length = bs.length - ((1 + n0 + n1)) := by simp
              repeat' (first
  | refine G_nilC ?_
  | refine G_nilN ?_
  | refine G_nilH ?_
  | (refine G_nil ?_; try clear ri_; try clear ops_)
  | (refine V_op ?_; first | exact True.intro | intro v_ h_ w_ r_ t_ | intro (ops_ : Array Oper) ri_ | intro (b_ : Bool) hb_ | intro v_ h_ | intro (v_ : Value) | intro (b_ : Nat) | (refine ⟨fun hc => ?_, fun hc => ?_⟩ <;> try (exfalso; omega)) | refine ⟨?_, ?_⟩ | intro _ | skip)
  | (refine Is_DQ ?_; first | (apply DQ_k rfl rfl rfl; intro mm) | (apply DQ_x rfl rfl rfl; intro mm)))
              · rw [hT] at hc
                rw [if_neg hc] at hr
                subst hr
                refine ret_ rfl (by repeat (first | exact ResAll.nil | (apply ResAll.cons; first | exact .tmp rfl | exact .cell rfl rfl | exact .one rfl))) fun w' h' => ?_
                exact .mk (slNil, slNil) trivial rfl h' (by intro _; exact inferInstance)
              · rw [hT] at hc
                rw [if_pos (Classical.not_not.1 hc)] at hr
                subst hr
                haveI := hr2.isOne
                (first | refine G_frz q3 ?_ | refine GC_frz q3 ?_ | refine At_frz q3 ?_); intro w_ _ _ _
                refine ret_ rfl (by repeat (first | exact ResAll.nil | (apply ResAll.cons; first | exact .tmp rfl | exact .cell rfl rfl | exact .one rfl))) fun w' h' => ?_
                exact .mk (slOf q3 (sumL x), slOf (restV (restV (cut (BitVec 8) v 1 bs.length) (bs.drop 1)) (bs.drop (1 + n0))) (bs.drop (1 + n0 + n1))) ⟨rfl, rfl⟩ rfl h' (by intro _; exact inferInstance)
instance {w0 : World} {O : List Nat} {m : List As} {v : Value} {bs : List (BitVec 8)} [h : RdOld w0 O v bs] {r : Except Int (List Int × Nat)} [hr : Eqn (dcB bs) r] : CallD Try.prog w0 O m 27 [v] True (dcP bs r) (dcA r) (fun i w O => Tru w O i) := ⟨fun _ w hw => ref_Decode w0 O m v bs r hr.eq w hw⟩
instance {w0 : World} {O : List Nat} {m : List As} {v : Value} {bs : List (BitVec 8)} [h : RdOld w0 O v bs] {r : Except Int (List Int × Nat)} [hr : Eqn (dcB bs) r] : CallD Try.prog w0 O m 37 [v] True (dcP bs r) (dcV r) (fun i w O => Tru w O i) := ⟨fun _ w hw => run_Decode w0 O m v bs r hr.eq w hw⟩

/-! ### What the laws call -/
theorem law_runsOf (w : World) (v : Value) (l : List Int) [h : RdOld w [] v l] (hl : l.length ≤ 100000) : Calls Try.prog 15 #[v] w (Ret w [] (fun _ : Value × Value => True) (fun r => .agg #[r.1, r.2]) (fun r => [row r.1 3 (rvs l), row r.2 3 (rls l)])) := by
  refine enter (N := 13) (args := [v]) Try.func15 rfl rfl rfl (St.refl w) ?_
  repeat' (first
  | refine G_nilC ?_
  | refine G_nilN ?_
  | refine G_nilH ?_
  | (refine G_nil ?_; try clear ri_; try clear ops_)
  | (refine V_op ?_; first | exact True.intro | intro v_ h_ w_ r_ t_ | intro (ops_ : Array Oper) ri_ | intro (b_ : Bool) hb_ | intro v_ h_ | intro (v_ : Value) | intro (b_ : Nat) | (refine ⟨fun hc => ?_, fun hc => ?_⟩ <;> try (exfalso; omega)) | refine ⟨?_, ?_⟩ | intro _ | skip)
  | (refine Is_DQ ?_; first | (apply DQ_k rfl rfl rfl; intro mm) | (apply DQ_x rfl rfl rfl; intro mm)))
  refine ret_ rfl (by repeat (first | exact ResAll.nil | (apply ResAll.cons; first | exact .tmp rfl | exact .cell rfl rfl | exact .one rfl))) fun w' h' => ?_
  exact .mk (v_.1, v_.2) trivial rfl h'
theorem law_encoded (w : World) (v : Value) (l : List Int) [h : RdOld w [] v l] (hi : okI l) : Calls Try.prog 10 #[v] w (Ret w [] (fun _ : Value => True) (fun r => .agg #[r, I (enE l)]) (fun r => [row r 5 (enB l)])) := by
  refine enter (N := 13) (args := [v]) Try.func10 rfl rfl rfl (St.refl w) ?_
  repeat' (first
  | refine G_nilC ?_
  | refine G_nilN ?_
  | refine G_nilH ?_
  | (refine G_nil ?_; try clear ri_; try clear ops_)
  | (refine V_op ?_; first | exact True.intro | intro v_ h_ w_ r_ t_ | intro (ops_ : Array Oper) ri_ | intro (b_ : Bool) hb_ | intro v_ h_ | intro (v_ : Value) | intro (b_ : Nat) | (refine ⟨fun hc => ?_, fun hc => ?_⟩ <;> try (exfalso; omega)) | refine ⟨?_, ?_⟩ | intro _ | skip)
  | (refine Is_DQ ?_; first | (apply DQ_k rfl rfl rfl; intro mm) | (apply DQ_x rfl rfl rfl; intro mm)))
  refine ret_ rfl (by repeat (first | exact ResAll.nil | (apply ResAll.cons; first | exact .tmp rfl | exact .cell rfl rfl | exact .one rfl))) fun w' h' => ?_
  exact .mk v_ trivial rfl h'
theorem law_expanded (w : World) (v u : Value) (vs ls : List Int) [h : RdOld w [] v vs] [h' : RdOld w [] u ls] (hv : vs.length ≤ 100000) (hl : ls.length ≤ 100000) (r : Except Int (List Int)) (hr : expE vs ls = r) :
    Calls Try.prog 12 #[.agg #[v, u]] w (Ret w [] (fun _ : Value => True) (fun q => expA q r) (fun q => [row q 3 (expL r)])) := by
  haveI : Eqn (expE vs ls) r := ⟨hr⟩
  cases r with
  | error e =>
    refine enter (N := 16) (args := [.agg #[v, u]]) Try.func12 rfl rfl rfl (St.refl w) ?_
    repeat' (first
  | refine G_nilC ?_
  | refine G_nilN ?_
  | refine G_nilH ?_
  | (refine G_nil ?_; try clear ri_; try clear ops_)
  | (refine V_op ?_; first | exact True.intro | intro v_ h_ w_ r_ t_ | intro (ops_ : Array Oper) ri_ | intro (b_ : Bool) hb_ | intro v_ h_ | intro (v_ : Value) | intro (b_ : Nat) | (refine ⟨fun hc => ?_, fun hc => ?_⟩ <;> try (exfalso; omega)) | refine ⟨?_, ?_⟩ | intro _ | skip)
  | (refine Is_DQ ?_; first | (apply DQ_k rfl rfl rfl; intro mm) | (apply DQ_x rfl rfl rfl; intro mm)))
    refine ret_ rfl (by repeat (first | exact ResAll.nil | (apply ResAll.cons; first | exact .tmp rfl | exact .cell rfl rfl | exact .one rfl))) fun w' h' => ?_
    exact .mk (M := fun q => [row q 3 ([] : List Int)]) (.slice none 0 0) trivial rfl h'
  | ok x =>
    refine enter (N := 16) (args := [.agg #[v, u]]) Try.func12 rfl rfl rfl (St.refl w) ?_
    repeat' (first
  | refine G_nilC ?_
  | refine G_nilN ?_
  | refine G_nilH ?_
  | (refine G_nil ?_; try clear ri_; try clear ops_)
  | (refine V_op ?_; first | exact True.intro | intro v_ h_ w_ r_ t_ | intro (ops_ : Array Oper) ri_ | intro (b_ : Bool) hb_ | intro v_ h_ | intro (v_ : Value) | intro (b_ : Nat) | (refine ⟨fun hc => ?_, fun hc => ?_⟩ <;> try (exfalso; omega)) | refine ⟨?_, ?_⟩ | intro _ | skip)
  | (refine Is_DQ ?_; first | (apply DQ_k rfl rfl rfl; intro mm) | (apply DQ_x rfl rfl rfl; intro mm)))
    refine ret_ rfl (by repeat (first | exact ResAll.nil | (apply ResAll.cons; first | exact .tmp rfl | exact .cell rfl rfl | exact .one rfl))) fun w' h' => ?_
    exact .mk (M := fun q => [row q 3 x]) v_ trivial rfl h'
theorem law_decoded (w0 : World) (O : List Nat) (m : List As) (v : Value) (bs : List (BitVec 8)) [h : RdOld w0 O v bs] (r : Except Int (List Int × Nat)) (hr : dcB bs = r) (w : World) (hw : St w0 O m w) :
    Calls Try.prog 26 #[v] w (RetD w0 O m (dcP bs r) (dcA r) (fun i w O => Tru w O i)) := by
  haveI : Eqn (dcB bs) r := ⟨hr⟩
  cases r with
  | error e =>
    refine enterF (N := 16) (args := [v]) Try.func26 rfl rfl rfl hw ?_
    repeat' (first
  | refine G_nilC ?_
  | refine G_nilN ?_
  | refine G_nilH ?_
  | (refine G_nil ?_; try clear ri_; try clear ops_)
  | (refine V_op ?_; first | exact True.intro | intro v_ h_ w_ r_ t_ | intro (ops_ : Array Oper) ri_ | intro (b_ : Bool) hb_ | intro v_ h_ | intro (v_ : Value) | intro (b_ : Nat) | (refine ⟨fun hc => ?_, fun hc => ?_⟩ <;> try (exfalso; omega)) | refine ⟨?_, ?_⟩ | intro _ | skip)
  | (refine Is_DQ ?_; first | (apply DQ_k rfl rfl rfl; intro mm) | (apply DQ_x rfl rfl rfl; intro mm)))
    simp only [dcV]
    repeat' (first
  | refine G_nilC ?_
  | refine G_nilN ?_
  | refine G_nilH ?_
  | (refine G_nil ?_; try clear ri_; try clear ops_)
  | (refine V_op ?_; first | exact True.intro | intro v_ h_ w_ r_ t_ | intro (ops_ : Array Oper) ri_ | intro (b_ : Bool) hb_ | intro v_ h_ | intro (v_ : Value) | intro (b_ : Nat) | (refine ⟨fun hc => ?_, fun hc => ?_⟩ <;> try (exfalso; omega)) | refine ⟨?_, ?_⟩ | intro _ | skip)
  | (refine Is_DQ ?_; first | (apply DQ_k rfl rfl rfl; intro mm) | (apply DQ_x rfl rfl rfl; intro mm)))
    refine ret_ rfl (by repeat (first | exact ResAll.nil | (apply ResAll.cons; first | exact .tmp rfl | exact .cell rfl rfl | exact .one rfl))) fun w' h' => ?_
    exact .mk v_ h_ rfl h' (by intro _; exact inferInstance)
  | ok x =>
    refine enterF (N := 16) (args := [v]) Try.func26 rfl rfl rfl hw ?_
    repeat' (first
  | refine G_nilC ?_
  | refine G_nilN ?_
  | refine G_nilH ?_
  | (refine G_nil ?_; try clear ri_; try clear ops_)
  | (refine V_op ?_; first | exact True.intro | intro v_ h_ w_ r_ t_ | intro (ops_ : Array Oper) ri_ | intro (b_ : Bool) hb_ | intro v_ h_ | intro (v_ : Value) | intro (b_ : Nat) | (refine ⟨fun hc => ?_, fun hc => ?_⟩ <;> try (exfalso; omega)) | refine ⟨?_, ?_⟩ | intro _ | skip)
  | (refine Is_DQ ?_; first | (apply DQ_k rfl rfl rfl; intro mm) | (apply DQ_x rfl rfl rfl; intro mm)))
    simp only [dcV]
    repeat' (first
  | refine G_nilC ?_
  | refine G_nilN ?_
  | refine G_nilH ?_
  | (refine G_nil ?_; try clear ri_; try clear ops_)
  | (refine V_op ?_; first | exact True.intro | intro v_ h_ w_ r_ t_ | intro (ops_ : Array Oper) ri_ | intro (b_ : Bool) hb_ | intro v_ h_ | intro (v_ : Value) | intro (b_ : Nat) | (refine ⟨fun hc => ?_, fun hc => ?_⟩ <;> try (exfalso; omega)) | refine ⟨?_, ?_⟩ | intro _ | skip)
  | (refine Is_DQ ?_; first | (apply DQ_k rfl rfl rfl; intro mm) | (apply DQ_x rfl rfl rfl; intro mm)))
    refine ret_ rfl (by repeat (first | exact ResAll.nil | (apply ResAll.cons; first | exact .tmp rfl | exact .cell rfl rfl | exact .one rfl))) fun w' h' => ?_
    exact .mk v_ h_ rfl h' (by intro _; exact inferInstance)
end Go.Proofs.Ytaegfjolemehaaa
