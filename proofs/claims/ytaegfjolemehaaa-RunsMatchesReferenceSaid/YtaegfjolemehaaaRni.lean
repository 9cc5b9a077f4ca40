/- Runs: decoding, in the program. -/
import Derived.Test.YtaegfjolemehaaaRnh
set_option linter.unusedVariables false
set_option linter.unusedSimpArgs false
set_option maxRecDepth 100000
set_option maxHeartbeats 4000000
namespace Go.Proofs.Ytaegfjolemehaaa
open Go.RowKit
attribute [local irreducible] G GC At wpL DR XPost CPost Cut GA GAR GAX GAt NxA GH GHR NxH
attribute [local instance 2000] rdR_tail

theorem unp_canon' {bs : List (BitVec 8)} {l : List Int} {off : Nat} (h : unpB bs = .ok (l, off)) : (l.length ≤ 4096 ∧ okI l) ∧ packB l ++ bs.drop off = bs := by
  obtain ⟨n, k, h1, hh⟩ := unp_ok h
  rcases hh with ⟨h0, rfl, rfl⟩ | ⟨_, h4, hl, hi, hp, _⟩
  · refine ⟨⟨by simp, by intro x hx; simp at hx⟩, ?_⟩
    have e : packB [] = vint 0#64 := by rw [packB, if_pos List.length_nil]
    have hn : n = 0#64 := BitVec.eq_of_toNat_eq h0
    rw [e, ← hn, ← rd_take h1, List.take_append_drop]
  · exact ⟨⟨by omega, hi⟩, by rw [hp, List.take_append_drop]⟩
theorem unp_off {bs : List (BitVec 8)} {l : List Int} {off : Nat} (h : unpB bs = .ok (l, off)) : off ≤ bs.length ∧ off = (packB l).length := by
  have h1 := (unp_canon' h).2
  have h2 := unp_pack (unp_canon' h).1.2 (unp_canon' h).1.1 (bs.drop off)
  rw [h1, h] at h2
  simp only [Except.ok.injEq, Prod.mk.injEq, true_and] at h2
  have := congrArg List.length h1
  simp only [List.length_append, List.length_drop] at this
  exact ⟨by omega, h2⟩
theorem rdOld_restV {w0 : World} {O : List Nat} {v : Value} {bs : List (BitVec 8)} {l : List Int} {off : Nat} (h : RdOld w0 O v bs) (hu : unpB bs = .ok (l, off)) : RdOld w0 O (restV v bs) (bs.drop off) := by
  obtain ⟨n, k, h1, hh⟩ := unp_ok hu
  have hk := rdB_le h1
  rw [restV_ok h1]
  rcases hh with ⟨h0, _, rfl⟩ | ⟨h0, _, _, _, _, u, j, h2, hp, hs, rfl⟩
  · rw [if_pos h0]; exact h.rest hk.2
  · have hj := rdB_le h2
    rw [if_neg h0, h2]
    have e := (((h.rest hk.2).rest hj.2).rest (lo := 1) hp).rest hs
    simp only [List.drop_drop] at e ⊢
    exact e

theorem lib_Equal (w : World) (v v' : Value) (l l' : List (BitVec 8)) [h : RdOld w [] v l] [h' : RdOld w [] v' l'] : Calls Try.prog 53 #[v, v'] w (Is w (.bool (decide (l = l')))) := by
  have hl := h.rd.len_le
  have hl' := h'.rd.len_le
  refine enter (N := 26) (args := [v, v']) Try.func53 rfl rfl rfl (St.refl w) ?_
  repeat' (first
  | refine G_nilC ?_
  | refine G_nilN ?_
  | refine G_nilH ?_
  | (refine G_nil ?_; try clear ri_; try clear ops_)
  | (refine V_op ?_; first | exact True.intro | intro v_ h_ w_ r_ t_ | intro (ops_ : Array Oper) ri_ | intro (b_ : Bool) hb_ | intro v_ h_ | intro (v_ : Value) | intro (b_ : Nat) | (refine ⟨fun hc => ?_, fun hc => ?_⟩ <;> try (exfalso; omega)) | refine ⟨?_, ?_⟩ | intro _ | skip)
  | (refine Is_DQ ?_; first | (apply DQ_k rfl rfl rfl; intro mm) | (apply DQ_x rfl rfl rfl; intro mm)))
  · refine ret_ rfl (by repeat (first | exact ResAll.nil | (apply ResAll.cons; first | exact .tmp rfl | exact .cell rfl rfl | exact .one rfl))) fun w' h' => ?_
    exact .mk (by rw [decide_eq_false (p := l = l') (fun he => by subst he; omega)]) h'
  · refine GC_loopS (X := Nat) (fun k => k ≤ l.length ∧ l.take k = l'.take k) (fun k s => (13, I k) :: s) (fun _ r => r) (fun k => l.length - k) 0 ⟨Nat.zero_le _, by simp⟩ (by repeat (first | exact trivial | refine And.intro rfl ?_)) ?_
    rintro k ⟨hk, he⟩
    repeat' (first
  | refine G_nilC ?_
  | refine G_nilN ?_
  | refine G_nilH ?_
  | (refine G_nil ?_; try clear ri_; try clear ops_)
  | (refine V_op ?_; first | exact True.intro | intro v_ h_ w_ r_ t_ | intro (ops_ : Array Oper) ri_ | intro (b_ : Bool) hb_ | intro v_ h_ | intro (v_ : Value) | intro (b_ : Nat) | (refine ⟨fun hc => ?_, fun hc => ?_⟩ <;> try (exfalso; omega)) | refine ⟨?_, ?_⟩ | intro _ | skip)
  | (refine Is_DQ ?_; first | (apply DQ_k rfl rfl rfl; intro mm) | (apply DQ_x rfl rfl rfl; intro mm)))
    · refine ret_ rfl (by repeat (first | exact ResAll.nil | (apply ResAll.cons; first | exact .tmp rfl | exact .cell rfl rfl | exact .one rfl))) fun w' h' => ?_
      exact .mk (by rw [decide_eq_false (p := l = l') (fun he => by subst he; omega)]) h'
    · exact At_roundS (k + 1) ⟨by omega, (same_step (by omega) (by omega) he).2 (BitVec.eq_of_toNat_eq (by omega))⟩ (by omega) (by repeat (first | exact trivial | refine And.intro rfl ?_)) (by repeat (first | exact trivial | refine And.intro rfl ?_))
    · refine ret_ rfl (by repeat (first | exact ResAll.nil | (apply ResAll.cons; first | exact .tmp rfl | exact .cell rfl rfl | exact .one rfl))) fun w' h' => ?_
      have e1 : k = l.length := by omega
      rw [List.take_of_length_le (by omega), List.take_of_length_le (by omega)] at he
      exact .mk (by rw [decide_eq_true he]) h'
instance {w0 : World} {O : List Nat} {m : List As} {v v' : Value} {l l' : List (BitVec 8)} [h : RdR w0 O m v l] [h' : RdR w0 O m v' l'] : CallV Try.prog w0 O m 53 [v, v'] True (.bool (decide (l = l'))) :=
  ⟨fun _ w hw => @lib_Equal w v v' l l' (RdOld.of (h.rd w hw)) (RdOld.of (h'.rd w hw))⟩

/-- what Decode gives behind the lists -/
def dcK (bs : List (BitVec 8)) (k : Nat) (L : List (List Int)) (off : Nat) : Except Int (List Int × Nat) := match lres k L with
  | none => .error 5
  | some l => if encB l = bs.take off then .ok (l, off) else .error 5
def dcGo (bs : List (BitVec 8)) (k : Nat) : Nat → List (List Int) → Nat → Except Int (List Int × Nat)
  | 0, L, off => dcK bs k L off
  | n + 1, L, off => match unpB (bs.drop off) with
    | .error e => .error e
    | .ok (l, n1) => dcGo bs k n (L ++ [l]) (off + n1)
def dcB (bs : List (BitVec 8)) : Except Int (List Int × Nat) :=
  if bs.length = 0 then .error 7 else if 3 < (bs.getD 0 0#8).toNat then .error 5 else dcGo bs (bs.getD 0 0#8).toNat (1 + (bs.getD 0 0#8).toNat % 2) [] 1
theorem okI_sum {l : List Int} (h : okI l) : okI (sumL l) := by
  have key : ∀ (r : List Int) (a : Int), ∀ x ∈ sumGo a r, -9223372036854775808 ≤ x ∧ x ≤ 9223372036854775807 := by
    intro r
    induction r with
    | nil => intro a x hx; simp [sumGo] at hx
    | cons y r ih =>
      intro a x hx
      simp only [sumGo, List.mem_cons] at hx
      rcases hx with rfl | hx
      · exact wrap_range _
      · exact ih _ x hx
  cases l with
  | nil => exact h
  | cons a r =>
    intro x hx
    simp only [sumL, List.mem_cons] at hx
    rcases hx with rfl | hx
    · exact h x (by simp)
    · exact key r a x hx
theorem expGo_ok : ∀ (r : List (Int × Int)) (out : List Int) (x : List Int), okI out → (∀ p ∈ r, -9223372036854775808 ≤ p.1 ∧ p.1 ≤ 9223372036854775807) → expGo out r = .ok x → okI x
  | [], out, x, h, _, he => by simp only [expGo, Except.ok.injEq] at he; subst he; exact h
  | (v, n) :: r, out, x, h, hr, he => by
    rw [expGo] at he
    split at he
    · cases he
    · refine expGo_ok r _ x (fun y hy => ?_) (fun p hp => hr p (by simp [hp])) he
      rcases List.mem_append.1 hy with hy | hy
      · exact h y hy
      · rw [(List.mem_replicate.1 hy).2]; exact hr (v, n) (by simp)
theorem lres_ok {k : Nat} {L : List (List Int)} {l : List Int} (h : ∀ x ∈ L, okI x) (he : lres k L = some l) : okI l := by
  have hg : ∀ i, okI (L.getD i []) := fun i => by
    rw [List.getD_eq_getElem?_getD]
    by_cases hi : i < L.length
    · rw [List.getElem?_eq_getElem hi]; exact h _ (List.getElem_mem hi)
    · rw [List.getElem?_eq_none (by omega)]; intro x hx; simp at hx
  have key : ∀ k l, lresA k L = some l → okI l := by
    intro k l he
    unfold lresA at he
    split at he
    · simp only [Option.some.injEq] at he; subst he; exact hg 0
    · split at he
      · rename_i x hx
        simp only [Option.some.injEq] at he
        subst he
        unfold expE at hx
        split at hx
        · cases hx
        · split at hx
          · cases hx
          · exact expGo_ok _ _ _ (by intro y hy; simp at hy) (fun p hp => hg 0 p.1 (List.of_mem_zip hp).1) hx
      · cases he
  unfold lres at he
  split at he
  · simp only [Option.map_eq_some_iff] at he
    obtain ⟨y, hy, rfl⟩ := he
    exact okI_sum (key _ _ hy)
  · exact key _ _ he

/-- what Decode gives back -/
def dcV (r : Except Int (List Int × Nat)) (i : Sl Int × Sl (BitVec 8)) : Value := match r with
  | .error e => .tuple #[.slice none 0 0, .slice none 0 0, I e]
  | .ok _ => .tuple #[i.1.v, i.2.v, I 0]
def dcP (bs : List (BitVec 8)) (r : Except Int (List Int × Nat)) (i : Sl Int × Sl (BitVec 8)) : Prop := match r with
  | .error _ => True
  | .ok (l, off) => i.1.l = l ∧ i.2.l = bs.drop off
theorem run_Decode (w0 : World) (O : List Nat) (m : List As) (v : Value) (bs : List (BitVec 8)) [h : RdOld w0 O v bs] (r : Except Int (List Int × Nat)) (hr : dcB bs = r) (w : World) (hw : St w0 O m w) :
    Calls Try.prog 37 #[v] w (RetD w0 O m (dcP bs r) (dcV r) (fun i w O => Tru w O i)) := by
  have hlen := h.rd.len_le
  by_cases h0 : bs.length = 0
  · rw [dcB, if_pos h0] at hr
    subst hr
    refine enterF (N := 81) (args := [v]) Try.func37 rfl rfl rfl hw ?_
    repeat' (first
  | refine G_nilC ?_
  | refine G_nilN ?_
  | refine G_nilH ?_
  | (refine G_nil ?_; try clear ri_; try clear ops_)
  | (refine V_op ?_; first | exact True.intro | intro v_ h_ w_ r_ t_ | intro (ops_ : Array Oper) ri_ | intro (b_ : Bool) hb_ | intro v_ h_ | intro (v_ : Value) | intro (b_ : Nat) | (refine ⟨fun hc => ?_, fun hc => ?_⟩ <;> try (exfalso; omega)) | refine ⟨?_, ?_⟩ | intro _ | skip)
  | (refine Is_DQ ?_; first | (apply DQ_k rfl rfl rfl; intro mm) | (apply DQ_x rfl rfl rfl; intro mm)))
    refine ret_ rfl (by repeat (first | exact ResAll.nil | (apply ResAll.cons; first | exact .tmp rfl | exact .cell rfl rfl | exact .one rfl))) fun w' h' => ?_
    exact .mk (slNil, slNil) trivial rfl h' (by intro _; exact inferInstance)
  · haveI : Fct (0 < bs.length) := ⟨by omega⟩
    have hg0 : bs.getD 0 0#8 = bs[0] := by rw [List.getD_eq_getElem?_getD, List.getElem?_eq_getElem (by omega)]; rfl
    rw [dcB, if_neg h0, hg0] at hr
    by_cases h3 : 3 < (bs[0]'(by omega)).toNat
    · rw [if_pos h3] at hr
      subst hr
      refine enterF (N := 81) (args := [v]) Try.func37 rfl rfl rfl hw ?_
      repeat' (first
  | refine G_nilC ?_
  | refine G_nilN ?_
  | refine G_nilH ?_
  | (refine G_nil ?_; try clear ri_; try clear ops_)
  | (refine V_op ?_; first | exact True.intro | intro v_ h_ w_ r_ t_ | intro (ops_ : Array Oper) ri_ | intro (b_ : Bool) hb_ | intro v_ h_ | intro (v_ : Value) | intro (b_ : Nat) | (refine ⟨fun hc => ?_, fun hc => ?_⟩ <;> try (exfalso; omega)) | refine ⟨?_, ?_⟩ | intro _ | skip)
  | (refine Is_DQ ?_; first | (apply DQ_k rfl rfl rfl; intro mm) | (apply DQ_x rfl rfl rfl; intro mm)))
      refine ret_ rfl (by repeat (first | exact ResAll.nil | (apply ResAll.cons; first | exact .tmp rfl | exact .cell rfl rfl | exact .one rfl))) fun w' h' => ?_
      exact .mk (slNil, slNil) trivial rfl h' (by intro _; exact inferInstance)
    · rw [if_neg h3] at hr
      generalize hk : (bs[0]'(by omega)).toNat = k at hr h3
      haveI : NatR (((bs[0]'(by omega)).toNat : Nat) : Int) k True := ⟨fun _ => by rw [hk]⟩
      rcases (by omega : k = 0 ∨ k = 1 ∨ k = 2 ∨ k = 3) with rfl | rfl | rfl | rfl
      · refine enterF (N := 81) (args := [v]) Try.func37 rfl rfl rfl hw ?_
        repeat' (first
  | refine G_nilC ?_
  | refine G_nilN ?_
  | refine G_nilH ?_
  | (refine G_nil ?_; try clear ri_; try clear ops_)
  | (refine V_op ?_; first | exact True.intro | intro v_ h_ w_ r_ t_ | intro (ops_ : Array Oper) ri_ | intro (b_ : Bool) hb_ | intro v_ h_ | intro (v_ : Value) | intro (b_ : Nat) | (refine ⟨fun hc => ?_, fun hc => ?_⟩ <;> try (exfalso; omega)) | refine ⟨?_, ?_⟩ | intro _ | skip)
  | (refine Is_DQ ?_; first | (apply DQ_k rfl rfl rfl; intro mm) | (apply DQ_x rfl rfl rfl; intro mm)))
        refine GC_cutX (ι := (Nat × Nat) × Nat) (fun _ => True) (fun i => (6, cut (BitVec 8) v 1 bs.length) :: (5, .pointer (some ⟨i.2, 0, none⟩)) :: [(0, v)]) (fun i => .box i.2 (.cells #[.func (.func 43) #[] #[], .func (.func 44) #[] #[]] 65) :: .box i.1.1 (.cells #[.func (.func 43) #[] #[], .func (.func 44) #[] #[]] 65) :: .box i.1.2 (.cells #[.func (.func 45) #[] #[], .func (.func 46) #[] #[]] 65) :: m) ?_ ?_
        · haveI := DrA_37_5
          repeat' (first
  | refine G_nilC ?_
  | refine G_nilN ?_
  | refine G_nilH ?_
  | (refine G_nil ?_; try clear ri_; try clear ops_)
  | (refine V_op ?_; first | exact True.intro | intro v_ h_ w_ r_ t_ | intro (ops_ : Array Oper) ri_ | intro (b_ : Bool) hb_ | intro v_ h_ | intro (v_ : Value) | intro (b_ : Nat) | (refine ⟨fun hc => ?_, fun hc => ?_⟩ <;> try (exfalso; omega)) | refine ⟨?_, ?_⟩ | intro _ | skip)
  | (refine Is_DQ ?_; first | (apply DQ_k rfl rfl rfl; intro mm) | (apply DQ_x rfl rfl rfl; intro mm)))
          all_goals exact At_cutX ((v_.1, v_.2), b_) trivial (by repeat (first | exact trivial | refine And.intro rfl ?_))
        · rintro ⟨⟨b1, b2⟩, b⟩ _
          simp only
          have e33 : 1#8 + BitVec.ofInt 8 (((bs[0]'(by omega)).toNat : Int) % 2) = 1#8 := by rw [hk]; rfl
          have e1n : (1#8).toNat = 1 := rfl
          haveI hrest : RdOld w0 O (cut (BitVec 8) v 1 bs.length) (bs.drop 1) := h.rest (by omega)
          repeat' (first
  | refine G_nilC ?_
  | refine G_nilN ?_
  | refine G_nilH ?_
  | (refine G_nil ?_; try clear ri_; try clear ops_)
  | (refine V_op ?_; first | exact True.intro | intro v_ h_ w_ r_ t_ | intro (ops_ : Array Oper) ri_ | intro (b_ : Bool) hb_ | intro v_ h_ | intro (v_ : Value) | intro (b_ : Nat) | (refine ⟨fun hc => ?_, fun hc => ?_⟩ <;> try (exfalso; omega)) | refine ⟨?_, ?_⟩ | intro _ | skip)
  | (refine Is_DQ ?_; first | (apply DQ_k rfl rfl rfl; intro mm) | (apply DQ_x rfl rfl rfl; intro mm)))
          rw [e33]
          refine GC_loopD (X := Nat × List (Sl Int) × Value × Value × Nat) (fun w O y => ((y.1 ≤ 1 ∧ y.2.1.length = y.1 ∧ y.2.2.2.2 ≤ bs.length) ∧ (∀ x ∈ y.2.1, okI x.l ∧ x.l.length ≤ 4096) ∧ dcGo bs 0 (1 - y.1) (y.2.1.map (·.l)) y.2.2.2.2 = r) ∧ TruL w O y.2.1 ∧ RdOld w O y.2.2.2.1 (bs.drop y.2.2.2.2))
            (fun y s => (34, B8 (BitVec.ofNat 8 y.1)) :: (7, y.2.2.1) :: (6, y.2.2.2.1) :: s) (fun y q => row y.2.2.1 22 y.2.1 :: q) (fun y => 1 - y.1) (0, [], .slice none 0 0, cut (BitVec 8) v 1 bs.length, 1) (fun _ => ⟨⟨⟨by simp, rfl, by simp only; omega⟩, by simp, hr⟩, inferInstance, inferInstance⟩) (by repeat (first | exact trivial | refine And.intro rfl ?_)) ?_
          rintro ⟨i, L, q, u, off⟩ w1 hr1 ⟨⟨⟨hi, hLn, hoff⟩, hLk, hg⟩, hT, hU⟩
          simp only at hi hLn hoff hLk hg hT hU ⊢
          have hi8 : (BitVec.ofNat 8 i).toNat = i := by rw [BitVec.toNat_ofNat]; omega
          by_cases hil : i < 1
          · rw [show 1 - i = (1 - (i + 1)) + 1 by omega, dcGo] at hg
            repeat' (first
  | refine G_nilC ?_
  | refine G_nilN ?_
  | refine G_nilH ?_
  | (refine G_nil ?_; try clear ri_; try clear ops_)
  | (refine V_op ?_; first | exact True.intro | intro v_ h_ w_ r_ t_ | intro (ops_ : Array Oper) ri_ | intro (b_ : Bool) hb_ | intro v_ h_ | intro (v_ : Value) | intro (b_ : Nat) | (refine ⟨fun hc => ?_, fun hc => ?_⟩ <;> try (exfalso; omega)) | refine ⟨?_, ?_⟩ | intro _ | skip)
  | (refine Is_DQ ?_; first | (apply DQ_k rfl rfl rfl; intro mm) | (apply DQ_x rfl rfl rfl; intro mm)))
            rcases hu : unpB (bs.drop off) with e | ⟨l, n1⟩
            · rw [hu] at hg
              simp only at hg
              subst hg
              have he := unp_err hu
              simp only [hu, unV]
              repeat' (first
  | refine G_nilC ?_
  | refine G_nilN ?_
  | refine G_nilH ?_
  | (refine G_nil ?_; try clear ri_; try clear ops_)
  | (refine V_op ?_; first | exact True.intro | intro v_ h_ w_ r_ t_ | intro (ops_ : Array Oper) ri_ | intro (b_ : Bool) hb_ | intro v_ h_ | intro (v_ : Value) | intro (b_ : Nat) | (refine ⟨fun hc => ?_, fun hc => ?_⟩ <;> try (exfalso; omega)) | refine ⟨?_, ?_⟩ | intro _ | skip)
  | (refine Is_DQ ?_; first | (apply DQ_k rfl rfl rfl; intro mm) | (apply DQ_x rfl rfl rfl; intro mm)))
              refine ret_ rfl (by repeat (first | exact ResAll.nil | (apply ResAll.cons; first | exact .tmp rfl | exact .cell rfl rfl | exact .one rfl))) fun w' h' => ?_
              exact .mk (slNil, slNil) trivial rfl h' (by intro _; exact inferInstance)
            · rw [hu] at hg
              simp only at hg
              simp only [hu, unV, unL]
              have hc1 := unp_canon' hu
              have hc2 := unp_off hu
              rw [List.length_drop] at hc2
              haveI : RdOld w1 _ (restV u (bs.drop off)) (bs.drop (off + n1)) := by
                have := rdOld_restV hU hu
                rwa [List.drop_drop] at this
              obtain ⟨q0, hq0⟩ : ∃ z, z = v_ := ⟨v_, rfl⟩
              subst hq0
              (first | refine G_frz q0 ?_ | refine GC_frz q0 ?_ | refine At_frz q0 ?_); intro w_ _ _ _
              repeat' (first
  | refine G_nilC ?_
  | refine G_nilN ?_
  | refine G_nilH ?_
  | (refine G_nil ?_; try clear ri_; try clear ops_)
  | (refine V_op ?_; first | exact True.intro | intro v_ h_ w_ r_ t_ | intro (ops_ : Array Oper) ri_ | intro (b_ : Bool) hb_ | intro v_ h_ | intro (v_ : Value) | intro (b_ : Nat) | (refine ⟨fun hc => ?_, fun hc => ?_⟩ <;> try (exfalso; omega)) | refine ⟨?_, ?_⟩ | intro _ | skip)
  | (refine Is_DQ ?_; first | (apply DQ_k rfl rfl rfl; intro mm) | (apply DQ_x rfl rfl rfl; intro mm)))
              have e34 : BitVec.ofNat 8 i + 1#8 = BitVec.ofNat 8 (i + 1) := by
                apply BitVec.eq_of_toNat_eq
                simp [BitVec.toNat_add]
              rw [e34]
              exact At_roundD (i + 1, L ++ [slOf q0 l], v_, restV u (bs.drop off), off + n1) (fun _ => ⟨⟨⟨by simp only; omega, by simp; omega, by simp only; omega⟩, fun x hx => by
                rcases List.mem_append.1 hx with hx | hx
                · exact hLk x hx
                · rw [List.mem_singleton.1 hx]; exact ⟨hc1.1.2, hc1.1.1⟩, by simpa [slOf] using hg⟩, inferInstance, inferInstance⟩) (by simp only; omega) (by repeat (first | exact trivial | refine And.intro rfl ?_)) (by repeat (first | exact trivial | refine And.intro rfl ?_))
          · obtain rfl : i = 1 := by omega
            rw [Nat.sub_self, dcGo] at hg
            haveI := hU.isOne
            have hLk2 : ∀ x ∈ L, x.l.length ≤ 4096 := fun x hx => (hLk x hx).2
            (first | refine G_frz q ?_ | refine GC_frz q ?_ | refine At_frz q ?_); intro w_ _ _ _
            repeat' (first
  | refine G_nilC ?_
  | refine G_nilN ?_
  | refine G_nilH ?_
  | (refine G_nil ?_; try clear ri_; try clear ops_)
  | (refine V_op ?_; first | exact True.intro | intro v_ h_ w_ r_ t_ | intro (ops_ : Array Oper) ri_ | intro (b_ : Bool) hb_ | intro v_ h_ | intro (v_ : Value) | intro (b_ : Nat) | (refine ⟨fun hc => ?_, fun hc => ?_⟩ <;> try (exfalso; omega)) | refine ⟨?_, ?_⟩ | intro _ | skip)
  | (refine Is_DQ ?_; first | (apply DQ_k rfl rfl rfl; intro mm) | (apply DQ_x rfl rfl rfl; intro mm)))
            · have hl := h_.1
              unfold lrs at hl
              rw [if_neg hc] at hl
              have e5 : lres 0 (L.map (·.l)) = none := hl
              rw [dcK, e5] at hg
              simp only at hg
              subst hg
              refine ret_ rfl (by repeat (first | exact ResAll.nil | (apply ResAll.cons; first | exact .tmp rfl | exact .cell rfl rfl | exact .one rfl))) fun w' h' => ?_
              exact .mk (slNil, slNil) trivial rfl h' (by intro _; exact inferInstance)
            · obtain ⟨x, hx⟩ : ∃ z, z = v_ := ⟨v_, rfl⟩
              subst hx
              have hl := h_.1
              unfold lrs at hl
              rw [if_pos (Classical.not_not.1 hc)] at hl
              have e5 : lres 0 (L.map (·.l)) = some x.1.l := hl
              have hok : okI x.1.l := lres_ok (fun y hy => by
                obtain ⟨z, hz, rfl⟩ := List.mem_map.1 hy
                exact (hLk z hz).1) e5
              have hln := h_.2
              haveI : Eqn (enB x.1.l) (encB x.1.l) := ⟨en_small hln⟩
              haveI : Eqn (enE x.1.l) 0 := ⟨ee_small hln⟩
              rw [dcK, e5] at hg
              simp only at hg
              have hdl : (bs.drop off).length = bs.length - off := by simp
              have hT : (bs.drop 0).take (bs.length - (bs.drop off).length - 0) = bs.take off := by
                rw [List.drop_zero]
                congr 1; omega
              repeat' (first
  | refine G_nilC ?_
  | refine G_nilN ?_
  | refine G_nilH ?_
  | (refine G_nil ?_; try clear ri_; try clear ops_)
  | (refine V_op ?_; first | exact True.intro | intro v_ h_ w_ r_ t_ | intro (ops_ : Array Oper) ri_ | intro (b_ : Bool) hb_ | intro v_ h_ | intro (v_ : Value) | intro (b_ : Nat) | (refine ⟨fun hc => ?_, fun hc => ?_⟩ <;> try (exfalso; omega)) | refine ⟨?_, ?_⟩ | intro _ | skip)
  | (refine Is_DQ ?_; first | (apply DQ_k rfl rfl rfl; intro mm) | (apply DQ_x rfl rfl rfl; intro mm)))
              · rw [hT] at hc
                rw [if_neg hc] at hg
                subst hg
                refine ret_ rfl (by repeat (first | exact ResAll.nil | (apply ResAll.cons; first | exact .tmp rfl | exact .cell rfl rfl | exact .one rfl))) fun w' h' => ?_
                exact .mk (slNil, slNil) trivial rfl h' (by intro _; exact inferInstance)
              · rw [hT] at hc
                rw [if_pos (Classical.not_not.1 hc)] at hg
                subst hg
                refine ret_ rfl (by repeat (first | exact ResAll.nil | (apply ResAll.cons; first | exact .tmp rfl | exact .cell rfl rfl | exact .one rfl))) fun w' h' => ?_
                exact .mk (x.1, slOf u (bs.drop off)) ⟨rfl, rfl⟩ rfl h' (by intro _; exact inferInstance)
      · refine enterF (N := 81) (args := [v]) Try.func37 rfl rfl rfl hw ?_
        repeat' (first
  | refine G_nilC ?_
  | refine G_nilN ?_
  | refine G_nilH ?_
  | (refine G_nil ?_; try clear ri_; try clear ops_)
  | (refine V_op ?_; first | exact True.intro | intro v_ h_ w_ r_ t_ | intro (ops_ : Array Oper) ri_ | intro (b_ : Bool) hb_ | intro v_ h_ | intro (v_ : Value) | intro (b_ : Nat) | (refine ⟨fun hc => ?_, fun hc => ?_⟩ <;> try (exfalso; omega)) | refine ⟨?_, ?_⟩ | intro _ | skip)
  | (refine Is_DQ ?_; first | (apply DQ_k rfl rfl rfl; intro mm) | (apply DQ_x rfl rfl rfl; intro mm)))
        refine GC_cutX (ι := (Nat × Nat) × Nat) (fun _ => True) (fun i => (6, cut (BitVec 8) v 1 bs.length) :: (5, .pointer (some ⟨i.2, 0, none⟩)) :: [(0, v)]) (fun i => .box i.2 (.cells #[.func (.func 45) #[] #[], .func (.func 46) #[] #[]] 65) :: .box i.1.1 (.cells #[.func (.func 43) #[] #[], .func (.func 44) #[] #[]] 65) :: .box i.1.2 (.cells #[.func (.func 45) #[] #[], .func (.func 46) #[] #[]] 65) :: m) ?_ ?_
        · haveI := DrA_37_5
          repeat' (first
  | refine G_nilC ?_
  | refine G_nilN ?_
  | refine G_nilH ?_
  | (refine G_nil ?_; try clear ri_; try clear ops_)
  | (refine V_op ?_; first | exact True.intro | intro v_ h_ w_ r_ t_ | intro (ops_ : Array Oper) ri_ | intro (b_ : Bool) hb_ | intro v_ h_ | intro (v_ : Value) | intro (b_ : Nat) | (refine ⟨fun hc => ?_, fun hc => ?_⟩ <;> try (exfalso; omega)) | refine ⟨?_, ?_⟩ | intro _ | skip)
  | (refine Is_DQ ?_; first | (apply DQ_k rfl rfl rfl; intro mm) | (apply DQ_x rfl rfl rfl; intro mm)))
          all_goals exact At_cutX ((v_.1, v_.2), b_) trivial (by repeat (first | exact trivial | refine And.intro rfl ?_))
        · rintro ⟨⟨b1, b2⟩, b⟩ _
          simp only
          have e33 : 1#8 + BitVec.ofInt 8 (((bs[0]'(by omega)).toNat : Int) % 2) = 2#8 := by rw [hk]; rfl
          have e1n : (2#8).toNat = 2 := rfl
          haveI hrest : RdOld w0 O (cut (BitVec 8) v 1 bs.length) (bs.drop 1) := h.rest (by omega)
          repeat' (first
  | refine G_nilC ?_
  | refine G_nilN ?_
  | refine G_nilH ?_
  | (refine G_nil ?_; try clear ri_; try clear ops_)
  | (refine V_op ?_; first | exact True.intro | intro v_ h_ w_ r_ t_ | intro (ops_ : Array Oper) ri_ | intro (b_ : Bool) hb_ | intro v_ h_ | intro (v_ : Value) | intro (b_ : Nat) | (refine ⟨fun hc => ?_, fun hc => ?_⟩ <;> try (exfalso; omega)) | refine ⟨?_, ?_⟩ | intro _ | skip)
  | (refine Is_DQ ?_; first | (apply DQ_k rfl rfl rfl; intro mm) | (apply DQ_x rfl rfl rfl; intro mm)))
          rw [e33]
          refine GC_loopD (X := Nat × List (Sl Int) × Value × Value × Nat) (fun w O y => ((y.1 ≤ 2 ∧ y.2.1.length = y.1 ∧ y.2.2.2.2 ≤ bs.length) ∧ (∀ x ∈ y.2.1, okI x.l ∧ x.l.length ≤ 4096) ∧ dcGo bs 1 (2 - y.1) (y.2.1.map (·.l)) y.2.2.2.2 = r) ∧ TruL w O y.2.1 ∧ RdOld w O y.2.2.2.1 (bs.drop y.2.2.2.2))
            (fun y s => (34, B8 (BitVec.ofNat 8 y.1)) :: (7, y.2.2.1) :: (6, y.2.2.2.1) :: s) (fun y q => row y.2.2.1 22 y.2.1 :: q) (fun y => 2 - y.1) (0, [], .slice none 0 0, cut (BitVec 8) v 1 bs.length, 1) (fun _ => ⟨⟨⟨by simp, rfl, by simp only; omega⟩, by simp, hr⟩, inferInstance, inferInstance⟩) (by repeat (first | exact trivial | refine And.intro rfl ?_)) ?_
          rintro ⟨i, L, q, u, off⟩ w1 hr1 ⟨⟨⟨hi, hLn, hoff⟩, hLk, hg⟩, hT, hU⟩
          simp only at hi hLn hoff hLk hg hT hU ⊢
          have hi8 : (BitVec.ofNat 8 i).toNat = i := by rw [BitVec.toNat_ofNat]; omega
          by_cases hil : i < 2
          · rw [show 2 - i = (2 - (i + 1)) + 1 by omega, dcGo] at hg
            repeat' (first
  | refine G_nilC ?_
  | refine G_nilN ?_
  | refine G_nilH ?_
  | (refine G_nil ?_; try clear ri_; try clear ops_)
  | (refine V_op ?_; first | exact True.intro | intro v_ h_ w_ r_ t_ | intro (ops_ : Array Oper) ri_ | intro (b_ : Bool) hb_ | intro v_ h_ | intro (v_ : Value) | intro (b_ : Nat) | (refine ⟨fun hc => ?_, fun hc => ?_⟩ <;> try (exfalso; omega)) | refine ⟨?_, ?_⟩ | intro _ | skip)
  | (refine Is_DQ ?_; first | (apply DQ_k rfl rfl rfl; intro mm) | (apply DQ_x rfl rfl rfl; intro mm)))
            rcases hu : unpB (bs.drop off) with e | ⟨l, n1⟩
            · rw [hu] at hg
              simp only at hg
              subst hg
              have he := unp_err hu
              simp only [hu, unV]
              repeat' (first
  | refine G_nilC ?_
  | refine G_nilN ?_
  | refine G_nilH ?_
  | (refine G_nil ?_; try clear ri_; try clear ops_)
  | (refine V_op ?_; first | exact True.intro | intro v_ h_ w_ r_ t_ | intro (ops_ : Array Oper) ri_ | intro (b_ : Bool) hb_ | intro v_ h_ | intro (v_ : Value) | intro (b_ : Nat) | (refine ⟨fun hc => ?_, fun hc => ?_⟩ <;> try (exfalso; omega)) | refine ⟨?_, ?_⟩ | intro _ | skip)
  | (refine Is_DQ ?_; first | (apply DQ_k rfl rfl rfl; intro mm) | (apply DQ_x rfl rfl rfl; intro mm)))
              refine ret_ rfl (by repeat (first | exact ResAll.nil | (apply ResAll.cons; first | exact .tmp rfl | exact .cell rfl rfl | exact .one rfl))) fun w' h' => ?_
              exact .mk (slNil, slNil) trivial rfl h' (by intro _; exact inferInstance)
            · rw [hu] at hg
              simp only at hg
              simp only [hu, unV, unL]
              have hc1 := unp_canon' hu
              have hc2 := unp_off hu
              rw [List.length_drop] at hc2
              haveI : RdOld w1 _ (restV u (bs.drop off)) (bs.drop (off + n1)) := by
                have := rdOld_restV hU hu
                rwa [List.drop_drop] at this
              obtain ⟨q0, hq0⟩ : ∃ z, z = v_ := ⟨v_, rfl⟩
              subst hq0
              (first | refine G_frz q0 ?_ | refine GC_frz q0 ?_ | refine At_frz q0 ?_); intro w_ _ _ _
              repeat' (first
  | refine G_nilC ?_
  | refine G_nilN ?_
  | refine G_nilH ?_
  | (refine G_nil ?_; try clear ri_; try clear ops_)
  | (refine V_op ?_; first | exact True.intro | intro v_ h_ w_ r_ t_ | intro (ops_ : Array Oper) ri_ | intro (b_ : Bool) hb_ | intro v_ h_ | intro (v_ : Value) | intro (b_ : Nat) | (refine ⟨fun hc => ?_, fun hc => ?_⟩ <;> try (exfalso; omega)) | refine ⟨?_, ?_⟩ | intro _ | skip)
  | (refine Is_DQ ?_; first | (apply DQ_k rfl rfl rfl; intro mm) | (apply DQ_x rfl rfl rfl; intro mm)))
              have e34 : BitVec.ofNat 8 i + 1#8 = BitVec.ofNat 8 (i + 1) := by
                apply BitVec.eq_of_toNat_eq
                simp [BitVec.toNat_add]
              rw [e34]
              exact At_roundD (i + 1, L ++ [slOf q0 l], v_, restV u (bs.drop off), off + n1) (fun _ => ⟨⟨⟨by simp only; omega, by simp; omega, by simp only; omega⟩, fun x hx => by
                rcases List.mem_append.1 hx with hx | hx
                · exact hLk x hx
                · rw [List.mem_singleton.1 hx]; exact ⟨hc1.1.2, hc1.1.1⟩, by simpa [slOf] using hg⟩, inferInstance, inferInstance⟩) (by simp only; omega) (by repeat (first | exact trivial | refine And.intro rfl ?_)) (by repeat (first | exact trivial | refine And.intro rfl ?_))
          · obtain rfl : i = 2 := by omega
            rw [Nat.sub_self, dcGo] at hg
            haveI := hU.isOne
            have hLk2 : ∀ x ∈ L, x.l.length ≤ 4096 := fun x hx => (hLk x hx).2
            (first | refine G_frz q ?_ | refine GC_frz q ?_ | refine At_frz q ?_); intro w_ _ _ _
            repeat' (first
  | refine G_nilC ?_
  | refine G_nilN ?_
  | refine G_nilH ?_
  | (refine G_nil ?_; try clear ri_; try clear ops_)
  | (refine V_op ?_; first | exact True.intro | intro v_ h_ w_ r_ t_ | intro (ops_ : Array Oper) ri_ | intro (b_ : Bool) hb_ | intro v_ h_ | intro (v_ : Value) | intro (b_ : Nat) | (refine ⟨fun hc => ?_, fun hc => ?_⟩ <;> try (exfalso; omega)) | refine ⟨?_, ?_⟩ | intro _ | skip)
  | (refine Is_DQ ?_; first | (apply DQ_k rfl rfl rfl; intro mm) | (apply DQ_x rfl rfl rfl; intro mm)))
            · have hl := h_.1
              unfold lrs at hl
              rw [if_neg hc] at hl
              have e5 : lres 1 (L.map (·.l)) = none := hl
              rw [dcK, e5] at hg
              simp only at hg
              subst hg
              refine ret_ rfl (by repeat (first | exact ResAll.nil | (apply ResAll.cons; first | exact .tmp rfl | exact .cell rfl rfl | exact .one rfl))) fun w' h' => ?_
              exact .mk (slNil, slNil) trivial rfl h' (by intro _; exact inferInstance)
            · obtain ⟨x, hx⟩ : ∃ z, z = v_ := ⟨v_, rfl⟩
              subst hx
              have hl := h_.1
              unfold lrs at hl
              rw [if_pos (Classical.not_not.1 hc)] at hl
              have e5 : lres 1 (L.map (·.l)) = some x.1.l := hl
              have hok : okI x.1.l := lres_ok (fun y hy => by
                obtain ⟨z, hz, rfl⟩ := List.mem_map.1 hy
                exact (hLk z hz).1) e5
              have hln := h_.2
              haveI : Eqn (enB x.1.l) (encB x.1.l) := ⟨en_small hln⟩
              haveI : Eqn (enE x.1.l) 0 := ⟨ee_small hln⟩
              rw [dcK, e5] at hg
              simp only at hg
              have hdl : (bs.drop off).length = bs.length - off := by simp
              have hT : (bs.drop 0).take (bs.length - (bs.drop off).length - 0) = bs.take off := by
                rw [List.drop_zero]
                congr 1; omega
              repeat' (first
  | refine G_nilC ?_
  | refine G_nilN ?_
  | refine G_nilH ?_
  | (refine G_nil ?_; try clear ri_; try clear ops_)
  | (refine V_op ?_; first | exact True.intro | intro v_ h_ w_ r_ t_ | intro (ops_ : Array Oper) ri_ | intro (b_ : Bool) hb_ | intro v_ h_ | intro (v_ : Value) | intro (b_ : Nat) | (refine ⟨fun hc => ?_, fun hc => ?_⟩ <;> try (exfalso; omega)) | refine ⟨?_, ?_⟩ | intro _ | skip)
  | (refine Is_DQ ?_; first | (apply DQ_k rfl rfl rfl; intro mm) | (apply DQ_x rfl rfl rfl; intro mm)))
              · rw [hT] at hc
                rw [if_neg hc] at hg
                subst hg
                refine ret_ rfl (by repeat (first | exact ResAll.nil | (apply ResAll.cons; first | exact .tmp rfl | exact .cell rfl rfl | exact .one rfl))) fun w' h' => ?_
                exact .mk (slNil, slNil) trivial rfl h' (by intro _; exact inferInstance)
              · rw [hT] at hc
                rw [if_pos (Classical.not_not.1 hc)] at hg
                subst hg
                refine ret_ rfl (by repeat (first | exact ResAll.nil | (apply ResAll.cons; first | exact .tmp rfl | exact .cell rfl rfl | exact .one rfl))) fun w' h' => ?_
                exact .mk (x.1, slOf u (bs.drop off)) ⟨rfl, rfl⟩ rfl h' (by intro _; exact inferInstance)
      · refine enterF (N := 81) (args := [v]) Try.func37 rfl rfl rfl hw ?_
        repeat' (first
  | refine G_nilC ?_
  | refine G_nilN ?_
  | refine G_nilH ?_
  | (refine G_nil ?_; try clear ri_; try clear ops_)
  | (refine V_op ?_; first | exact True.intro | intro v_ h_ w_ r_ t_ | intro (ops_ : Array Oper) ri_ | intro (b_ : Bool) hb_ | intro v_ h_ | intro (v_ : Value) | intro (b_ : Nat) | (refine ⟨fun hc => ?_, fun hc => ?_⟩ <;> try (exfalso; omega)) | refine ⟨?_, ?_⟩ | intro _ | skip)
  | (refine Is_DQ ?_; first | (apply DQ_k rfl rfl rfl; intro mm) | (apply DQ_x rfl rfl rfl; intro mm)))
        refine GC_cutX (ι := (Nat × Nat) × Nat) (fun _ => True) (fun i => (6, cut (BitVec 8) v 1 bs.length) :: (5, .pointer (some ⟨i.2, 0, none⟩)) :: [(0, v)]) (fun i => .box i.2 (.cells #[.func (.func 48) #[] #[.pointer (some ⟨i.1.1, 0, none⟩)], .func (.func 49) #[] #[.pointer (some ⟨i.1.1, 0, none⟩)]] 65) :: .box i.1.1 (.cells #[.func (.func 43) #[] #[], .func (.func 44) #[] #[]] 65) :: .box i.1.2 (.cells #[.func (.func 45) #[] #[], .func (.func 46) #[] #[]] 65) :: m) ?_ ?_
        · haveI := DrA_37_5
          repeat' (first
  | refine G_nilC ?_
  | refine G_nilN ?_
  | refine G_nilH ?_
  | (refine G_nil ?_; try clear ri_; try clear ops_)
  | (refine V_op ?_; first | exact True.intro | intro v_ h_ w_ r_ t_ | intro (ops_ : Array Oper) ri_ | intro (b_ : Bool) hb_ | intro v_ h_ | intro (v_ : Value) | intro (b_ : Nat) | (refine ⟨fun hc => ?_, fun hc => ?_⟩ <;> try (exfalso; omega)) | refine ⟨?_, ?_⟩ | intro _ | skip)
  | (refine Is_DQ ?_; first | (apply DQ_k rfl rfl rfl; intro mm) | (apply DQ_x rfl rfl rfl; intro mm)))
          all_goals exact At_cutX ((v_.1, v_.2), b_) trivial (by repeat (first | exact trivial | refine And.intro rfl ?_))
        · rintro ⟨⟨b1, b2⟩, b⟩ _
          simp only
          have e33 : 1#8 + BitVec.ofInt 8 (((bs[0]'(by omega)).toNat : Int) % 2) = 1#8 := by rw [hk]; rfl
          have e1n : (1#8).toNat = 1 := rfl
          haveI hrest : RdOld w0 O (cut (BitVec 8) v 1 bs.length) (bs.drop 1) := h.rest (by omega)
          repeat' (first
  | refine G_nilC ?_
  | refine G_nilN ?_
  | refine G_nilH ?_
  | (refine G_nil ?_; try clear ri_; try clear ops_)
  | (refine V_op ?_; first | exact True.intro | intro v_ h_ w_ r_ t_ | intro (ops_ : Array Oper) ri_ | intro (b_ : Bool) hb_ | intro v_ h_ | intro (v_ : Value) | intro (b_ : Nat) | (refine ⟨fun hc => ?_, fun hc => ?_⟩ <;> try (exfalso; omega)) | refine ⟨?_, ?_⟩ | intro _ | skip)
  | (refine Is_DQ ?_; first | (apply DQ_k rfl rfl rfl; intro mm) | (apply DQ_x rfl rfl rfl; intro mm)))
          rw [e33]
          refine GC_loopD (X := Nat × List (Sl Int) × Value × Value × Nat) (fun w O y => ((y.1 ≤ 1 ∧ y.2.1.length = y.1 ∧ y.2.2.2.2 ≤ bs.length) ∧ (∀ x ∈ y.2.1, okI x.l ∧ x.l.length ≤ 4096) ∧ dcGo bs 2 (1 - y.1) (y.2.1.map (·.l)) y.2.2.2.2 = r) ∧ TruL w O y.2.1 ∧ RdOld w O y.2.2.2.1 (bs.drop y.2.2.2.2))
            (fun y s => (34, B8 (BitVec.ofNat 8 y.1)) :: (7, y.2.2.1) :: (6, y.2.2.2.1) :: s) (fun y q => row y.2.2.1 22 y.2.1 :: q) (fun y => 1 - y.1) (0, [], .slice none 0 0, cut (BitVec 8) v 1 bs.length, 1) (fun _ => ⟨⟨⟨by simp, rfl, by simp only; omega⟩, by simp, hr⟩, inferInstance, inferInstance⟩) (by repeat (first | exact trivial | refine And.intro rfl ?_)) ?_
          rintro ⟨i, L, q, u, off⟩ w1 hr1 ⟨⟨⟨hi, hLn, hoff⟩, hLk, hg⟩, hT, hU⟩
          simp only at hi hLn hoff hLk hg hT hU ⊢
          have hi8 : (BitVec.ofNat 8 i).toNat = i := by rw [BitVec.toNat_ofNat]; omega
          by_cases hil : i < 1
          · rw [show 1 - i = (1 - (i + 1)) + 1 by omega, dcGo] at hg
            repeat' (first
  | refine G_nilC ?_
  | refine G_nilN ?_
  | refine G_nilH ?_
  | (refine G_nil ?_; try clear ri_; try clear ops_)
  | (refine V_op ?_; first | exact True.intro | intro v_ h_ w_ r_ t_ | intro (ops_ : Array Oper) ri_ | intro (b_ : Bool) hb_ | intro v_ h_ | intro (v_ : Value) | intro (b_ : Nat) | (refine ⟨fun hc => ?_, fun hc => ?_⟩ <;> try (exfalso; omega)) | refine ⟨?_, ?_⟩ | intro _ | skip)
  | (refine Is_DQ ?_; first | (apply DQ_k rfl rfl rfl; intro mm) | (apply DQ_x rfl rfl rfl; intro mm)))
            rcases hu : unpB (bs.drop off) with e | ⟨l, n1⟩
            · rw [hu] at hg
              simp only at hg
              subst hg
              have he := unp_err hu
              simp only [hu, unV]
              repeat' (first
  | refine G_nilC ?_
  | refine G_nilN ?_
  | refine G_nilH ?_
  | (refine G_nil ?_; try clear ri_; try clear ops_)
  | (refine V_op ?_; first | exact True.intro | intro v_ h_ w_ r_ t_ | intro (ops_ : Array Oper) ri_ | intro (b_ : Bool) hb_ | intro v_ h_ | intro (v_ : Value) | intro (b_ : Nat) | (refine ⟨fun hc => ?_, fun hc => ?_⟩ <;> try (exfalso; omega)) | refine ⟨?_, ?_⟩ | intro _ | skip)
  | (refine Is_DQ ?_; first | (apply DQ_k rfl rfl rfl; intro mm) | (apply DQ_x rfl rfl rfl; intro mm)))
              refine ret_ rfl (by repeat (first | exact ResAll.nil | (apply ResAll.cons; first | exact .tmp rfl | exact .cell rfl rfl | exact .one rfl))) fun w' h' => ?_
              exact .mk (slNil, slNil) trivial rfl h' (by intro _; exact inferInstance)
            · rw [hu] at hg
              simp only at hg
              simp only [hu, unV, unL]
              have hc1 := unp_canon' hu
              have hc2 := unp_off hu
              rw [List.length_drop] at hc2
              haveI : RdOld w1 _ (restV u (bs.drop off)) (bs.drop (off + n1)) := by
                have := rdOld_restV hU hu
                rwa [List.drop_drop] at this
              obtain ⟨q0, hq0⟩ : ∃ z, z = v_ := ⟨v_, rfl⟩
              subst hq0
              (first | refine G_frz q0 ?_ | refine GC_frz q0 ?_ | refine At_frz q0 ?_); intro w_ _ _ _
              repeat' (first
  | refine G_nilC ?_
  | refine G_nilN ?_
  | refine G_nilH ?_
  | (refine G_nil ?_; try clear ri_; try clear ops_)
  | (refine V_op ?_; first | exact True.intro | intro v_ h_ w_ r_ t_ | intro (ops_ : Array Oper) ri_ | intro (b_ : Bool) hb_ | intro v_ h_ | intro (v_ : Value) | intro (b_ : Nat) | (refine ⟨fun hc => ?_, fun hc => ?_⟩ <;> try (exfalso; omega)) | refine ⟨?_, ?_⟩ | intro _ | skip)
  | (refine Is_DQ ?_; first | (apply DQ_k rfl rfl rfl; intro mm) | (apply DQ_x rfl rfl rfl; intro mm)))
              have e34 : BitVec.ofNat 8 i + 1#8 = BitVec.ofNat 8 (i + 1) := by
                apply BitVec.eq_of_toNat_eq
                simp [BitVec.toNat_add]
              rw [e34]
              exact At_roundD (i + 1, L ++ [slOf q0 l], v_, restV u (bs.drop off), off + n1) (fun _ => ⟨⟨⟨by simp only; omega, by simp; omega, by simp only; omega⟩, fun x hx => by
                rcases List.mem_append.1 hx with hx | hx
                · exact hLk x hx
                · rw [List.mem_singleton.1 hx]; exact ⟨hc1.1.2, hc1.1.1⟩, by simpa [slOf] using hg⟩, inferInstance, inferInstance⟩) (by simp only; omega) (by repeat (first | exact trivial | refine And.intro rfl ?_)) (by repeat (first | exact trivial | refine And.intro rfl ?_))
          · obtain rfl : i = 1 := by omega
            rw [Nat.sub_self, dcGo] at hg
            haveI := hU.isOne
            have hLk2 : ∀ x ∈ L, x.l.length ≤ 4096 := fun x hx => (hLk x hx).2
            (first | refine G_frz q ?_ | refine GC_frz q ?_ | refine At_frz q ?_); intro w_ _ _ _
            repeat' (first
  | refine G_nilC ?_
  | refine G_nilN ?_
  | refine G_nilH ?_
  | (refine G_nil ?_; try clear ri_; try clear ops_)
  | (refine V_op ?_; first | exact True.intro | intro v_ h_ w_ r_ t_ | intro (ops_ : Array Oper) ri_ | intro (b_ : Bool) hb_ | intro v_ h_ | intro (v_ : Value) | intro (b_ : Nat) | (refine ⟨fun hc => ?_, fun hc => ?_⟩ <;> try (exfalso; omega)) | refine ⟨?_, ?_⟩ | intro _ | skip)
  | (refine Is_DQ ?_; first | (apply DQ_k rfl rfl rfl; intro mm) | (apply DQ_x rfl rfl rfl; intro mm)))
            · have hl := h_.1
              unfold lrs at hl
              rw [if_neg hc] at hl
              have e5 : lres 2 (L.map (·.l)) = none := hl
              rw [dcK, e5] at hg
              simp only at hg
              subst hg
              refine ret_ rfl (by repeat (first | exact ResAll.nil | (apply ResAll.cons; first | exact .tmp rfl | exact .cell rfl rfl | exact .one rfl))) fun w' h' => ?_
              exact .mk (slNil, slNil) trivial rfl h' (by intro _; exact inferInstance)
            · obtain ⟨x, hx⟩ : ∃ z, z = v_ := ⟨v_, rfl⟩
              subst hx
              have hl := h_.1
              unfold lrs at hl
              rw [if_pos (Classical.not_not.1 hc)] at hl
              have e5 : lres 2 (L.map (·.l)) = some x.1.l := hl
              have hok : okI x.1.l := lres_ok (fun y hy => by
                obtain ⟨z, hz, rfl⟩ := List.mem_map.1 hy
                exact (hLk z hz).1) e5
              have hln := h_.2
              haveI : Eqn (enB x.1.l) (encB x.1.l) := ⟨en_small hln⟩
              haveI : Eqn (enE x.1.l) 0 := ⟨ee_small hln⟩
              rw [dcK, e5] at hg
              simp only at hg
              have hdl : (bs.drop off).length = bs.length - off := by simp
              have hT : (bs.drop 0).take (bs.length - (bs.drop off).length - 0) = bs.take off := by
                rw [List.drop_zero]
                congr 1; omega
              repeat' (first
  | refine G_nilC ?_
  | refine G_nilN ?_
  | refine G_nilH ?_
  | (refine G_nil ?_; try clear ri_; try clear ops_)
  | (refine V_op ?_; first | exact True.intro | intro v_ h_ w_ r_ t_ | intro (ops_ : Array Oper) ri_ | intro (b_ : Bool) hb_ | intro v_ h_ | intro (v_ : Value) | intro (b_ : Nat) | (refine ⟨fun hc => ?_, fun hc => ?_⟩ <;> try (exfalso; omega)) | refine ⟨?_, ?_⟩ | intro _ | skip)
  | (refine Is_DQ ?_; first | (apply DQ_k rfl rfl rfl; intro mm) | (apply DQ_x rfl rfl rfl; intro mm)))
              · rw [hT] at hc
                rw [if_neg hc] at hg
                subst hg
                refine ret_ rfl (by repeat (first | exact ResAll.nil | (apply ResAll.cons; first | exact .tmp rfl | exact .cell rfl rfl | exact .one rfl))) fun w' h' => ?_
                exact .mk (slNil, slNil) trivial rfl h' (by intro _; exact inferInstance)
              · rw [hT] at hc
                rw [if_pos (Classical.not_not.1 hc)] at hg
                subst hg
                refine ret_ rfl (by repeat (first | exact ResAll.nil | (apply ResAll.cons; first | exact .tmp rfl | exact .cell rfl rfl | exact .one rfl))) fun w' h' => ?_
                exact .mk (x.1, slOf u (bs.drop off)) ⟨rfl, rfl⟩ rfl h' (by intro _; exact inferInstance)
      · refine enterF (N := 81) (args := [v]) Try.func37 rfl rfl rfl hw ?_
        repeat' (first
  | refine G_nilC ?_
  | refine G_nilN ?_
  | refine G_nilH ?_
  | (refine G_nil ?_; try clear ri_; try clear ops_)
  | (refine V_op ?_; first | exact True.intro | intro v_ h_ w_ r_ t_ | intro (ops_ : Array Oper) ri_ | intro (b_ : Bool) hb_ | intro v_ h_ | intro (v_ : Value) | intro (b_ : Nat) | (refine ⟨fun hc => ?_, fun hc => ?_⟩ <;> try (exfalso; omega)) | refine ⟨?_, ?_⟩ | intro _ | skip)
  | (refine Is_DQ ?_; first | (apply DQ_k rfl rfl rfl; intro mm) | (apply DQ_x rfl rfl rfl; intro mm)))
        refine GC_cutX (ι := (Nat × Nat) × Nat) (fun _ => True) (fun i => (6, cut (BitVec 8) v 1 bs.length) :: (5, .pointer (some ⟨i.2, 0, none⟩)) :: [(0, v)]) (fun i => .box i.2 (.cells #[.func (.func 48) #[] #[.pointer (some ⟨i.1.2, 0, none⟩)], .func (.func 49) #[] #[.pointer (some ⟨i.1.2, 0, none⟩)]] 65) :: .box i.1.1 (.cells #[.func (.func 43) #[] #[], .func (.func 44) #[] #[]] 65) :: .box i.1.2 (.cells #[.func (.func 45) #[] #[], .func (.func 46) #[] #[]] 65) :: m) ?_ ?_
        · haveI := DrA_37_5
          repeat' (first
  | refine G_nilC ?_
  | refine G_nilN ?_
  | refine G_nilH ?_
  | (refine G_nil ?_; try clear ri_; try clear ops_)
  | (refine V_op ?_; first | exact True.intro | intro v_ h_ w_ r_ t_ | intro (ops_ : Array Oper) ri_ | intro (b_ : Bool) hb_ | intro v_ h_ | intro (v_ : Value) | intro (b_ : Nat) | (refine ⟨fun hc => ?_, fun hc => ?_⟩ <;> try (exfalso; omega)) | refine ⟨?_, ?_⟩ | intro _ | skip)
  | (refine Is_DQ ?_; first | (apply DQ_k rfl rfl rfl; intro mm) | (apply DQ_x rfl rfl rfl; intro mm)))
          all_goals exact At_cutX ((v_.1, v_.2), b_) trivial (by repeat (first | exact trivial | refine And.intro rfl ?_))
        · rintro ⟨⟨b1, b2⟩, b⟩ _
          simp only
          have e33 : 1#8 + BitVec.ofInt 8 (((bs[0]'(by omega)).toNat : Int) % 2) = 2#8 := by rw [hk]; rfl
          have e1n : (2#8).toNat = 2 := rfl
          haveI hrest : RdOld w0 O (cut (BitVec 8) v 1 bs.length) (bs.drop 1) := h.rest (by omega)
          repeat' (first
  | refine G_nilC ?_
  | refine G_nilN ?_
  | refine G_nilH ?_
  | (refine G_nil ?_; try clear ri_; try clear ops_)
  | (refine V_op ?_; first | exact True.intro | intro v_ h_ w_ r_ t_ | intro (ops_ : Array Oper) ri_ | intro (b_ : Bool) hb_ | intro v_ h_ | intro (v_ : Value) | intro (b_ : Nat) | (refine ⟨fun hc => ?_, fun hc => ?_⟩ <;> try (exfalso; omega)) | refine ⟨?_, ?_⟩ | intro _ | skip)
  | (refine Is_DQ ?_; first | (apply DQ_k rfl rfl rfl; intro mm) | (apply DQ_x rfl rfl rfl; intro mm)))
          rw [e33]
          refine GC_loopD (X := Nat × List (Sl Int) × Value × Value × Nat) (fun w O y => ((y.1 ≤ 2 ∧ y.2.1.length = y.1 ∧ y.2.2.2.2 ≤ bs.length) ∧ (∀ x ∈ y.2.1, okI x.l ∧ x.l.length ≤ 4096) ∧ dcGo bs 3 (2 - y.1) (y.2.1.map (·.l)) y.2.2.2.2 = r) ∧ TruL w O y.2.1 ∧ RdOld w O y.2.2.2.1 (bs.drop y.2.2.2.2))
            (fun y s => (34, B8 (BitVec.ofNat 8 y.1)) :: (7, y.2.2.1) :: (6, y.2.2.2.1) :: s) (fun y q => row y.2.2.1 22 y.2.1 :: q) (fun y => 2 - y.1) (0, [], .slice none 0 0, cut (BitVec 8) v 1 bs.length, 1) (fun _ => ⟨⟨⟨by simp, rfl, by simp only; omega⟩, by simp, hr⟩, inferInstance, inferInstance⟩) (by repeat (first | exact trivial | refine And.intro rfl ?_)) ?_
          rintro ⟨i, L, q, u, off⟩ w1 hr1 ⟨⟨⟨hi, hLn, hoff⟩, hLk, hg⟩, hT, hU⟩
          simp only at hi hLn hoff hLk hg hT hU ⊢
          have hi8 : (BitVec.ofNat 8 i).toNat = i := by rw [BitVec.toNat_ofNat]; omega
          by_cases hil : i < 2
          · rw [show 2 - i = (2 - (i + 1)) + 1 by omega, dcGo] at hg
            repeat' (first
  | refine G_nilC ?_
  | refine G_nilN ?_
  | refine G_nilH ?_
  | (refine G_nil ?_; try clear ri_; try clear ops_)
  | (refine V_op ?_; first | exact True.intro | intro v_ h_ w_ r_ t_ | intro (ops_ : Array Oper) ri_ | intro (b_ : Bool) hb_ | intro v_ h_ | intro (v_ : Value) | intro (b_ : Nat) | (refine ⟨fun hc => ?_, fun hc => ?_⟩ <;> try (exfalso; omega)) | refine ⟨?_, ?_⟩ | intro _ | skip)
  | (refine Is_DQ ?_; first | (apply DQ_k rfl rfl rfl; intro mm) | (apply DQ_x rfl rfl rfl; intro mm)))
            rcases hu : unpB (bs.drop off) with e | ⟨l, n1⟩
            · rw [hu] at hg
              simp only at hg
              subst hg
              have he := unp_err hu
              simp only [hu, unV]
              repeat' (first
  | refine G_nilC ?_
  | refine G_nilN ?_
  | refine G_nilH ?_
  | (refine G_nil ?_; try clear ri_; try clear ops_)
  | (refine V_op ?_; first | exact True.intro | intro v_ h_ w_ r_ t_ | intro (ops_ : Array Oper) ri_ | intro (b_ : Bool) hb_ | intro v_ h_ | intro (v_ : Value) | intro (b_ : Nat) | (refine ⟨fun hc => ?_, fun hc => ?_⟩ <;> try (exfalso; omega)) | refine ⟨?_, ?_⟩ | intro _ | skip)
  | (refine Is_DQ ?_; first | (apply DQ_k rfl rfl rfl; intro mm) | (apply DQ_x rfl rfl rfl; intro mm)))
              refine ret_ rfl (by repeat (first | exact ResAll.nil | (apply ResAll.cons; first | exact .tmp rfl | exact .cell rfl rfl | exact .one rfl))) fun w' h' => ?_
              exact .mk (slNil, slNil) trivial rfl h' (by intro _; exact inferInstance)
            · rw [hu] at hg
              simp only at hg
              simp only [hu, unV, unL]
              have hc1 := unp_canon' hu
              have hc2 := unp_off hu
              rw [List.length_drop] at hc2
              haveI : RdOld w1 _ (restV u (bs.drop off)) (bs.drop (off + n1)) := by
                have := rdOld_restV hU hu
                rwa [List.drop_drop] at this
              obtain ⟨q0, hq0⟩ : ∃ z, z = v_ := ⟨v_, rfl⟩
              subst hq0
              (first | refine G_frz q0 ?_ | refine GC_frz q0 ?_ | refine At_frz q0 ?_); intro w_ _ _ _
              repeat' (first
  | refine G_nilC ?_
  | refine G_nilN ?_
  | refine G_nilH ?_
  | (refine G_nil ?_; try clear ri_; try clear ops_)
  | (refine V_op ?_; first | exact True.intro | intro v_ h_ w_ r_ t_ | intro (ops_ : Array Oper) ri_ | intro (b_ : Bool) hb_ | intro v_ h_ | intro (v_ : Value) | intro (b_ : Nat) | (refine ⟨fun hc => ?_, fun hc => ?_⟩ <;> try (exfalso; omega)) | refine ⟨?_, ?_⟩ | intro _ | skip)
  | (refine Is_DQ ?_; first | (apply DQ_k rfl rfl rfl; intro mm) | (apply DQ_x rfl rfl rfl; intro mm)))
              have e34 : BitVec.ofNat 8 i + 1#8 = BitVec.ofNat 8 (i + 1) := by
                apply BitVec.eq_of_toNat_eq
                simp [BitVec.toNat_add]
              rw [e34]
              exact At_roundD (i + 1, L ++ [slOf q0 l], v_, restV u (bs.drop off), off + n1) (fun _ => ⟨⟨⟨by simp only; omega, by simp; omega, by simp only; omega⟩, fun x hx => by
                rcases List.mem_append.1 hx with hx | hx
                · exact hLk x hx
                · rw [List.mem_singleton.1 hx]; exact ⟨hc1.1.2, hc1.1.1⟩, by simpa [slOf] using hg⟩, inferInstance, inferInstance⟩) (by simp only; omega) (by repeat (first | exact trivial | refine And.intro rfl ?_)) (by repeat (first | exact trivial | refine And.intro rfl ?_))
          · obtain rfl : i = 2 := by omega
            rw [Nat.sub_self, dcGo] at hg
            haveI := hU.isOne
            have hLk2 : ∀ x ∈ L, x.l.length ≤ 4096 := fun x hx => (hLk x hx).2
            (first | refine G_frz q ?_ | refine GC_frz q ?_ | refine At_frz q ?_); intro w_ _ _ _
            repeat' (first
  | refine G_nilC ?_
  | refine G_nilN ?_
  | refine G_nilH ?_
  | (refine G_nil ?_; try clear ri_; try clear ops_)
  | (refine V_op ?_; first | exact True.intro | intro v_ h_ w_ r_ t_ | intro (ops_ : Array Oper) ri_ | intro (b_ : Bool) hb_ | intro v_ h_ | intro (v_ : Value) | intro (b_ : Nat) | (refine ⟨fun hc => ?_, fun hc => ?_⟩ <;> try (exfalso; omega)) | refine ⟨?_, ?_⟩ | intro _ | skip)
  | (refine Is_DQ ?_; first | (apply DQ_k rfl rfl rfl; intro mm) | (apply DQ_x rfl rfl rfl; intro mm)))
            · have hl := h_.1
              unfold lrs at hl
              rw [if_neg hc] at hl
              have e5 : lres 3 (L.map (·.l)) = none := hl
              rw [dcK, e5] at hg
              simp only at hg
              subst hg
              refine ret_ rfl (by repeat (first | exact ResAll.nil | (apply ResAll.cons; first | exact .tmp rfl | exact .cell rfl rfl | exact .one rfl))) fun w' h' => ?_
              exact .mk (slNil, slNil) trivial rfl h' (by intro _; exact inferInstance)
            · obtain ⟨x, hx⟩ : ∃ z, z = v_ := ⟨v_, rfl⟩
              subst hx
              have hl := h_.1
              unfold lrs at hl
              rw [if_pos (Classical.not_not.1 hc)] at hl
              have e5 : lres 3 (L.map (·.l)) = some x.1.l := hl
              have hok : okI x.1.l := lres_ok (fun y hy => by
                obtain ⟨z, hz, rfl⟩ := List.mem_map.1 hy
                exact (hLk z hz).1) e5
              have hln := h_.2
              haveI : Eqn (enB x.1.l) (encB x.1.l) := ⟨en_small hln⟩
              haveI : Eqn (enE x.1.l) 0 := ⟨ee_small hln⟩
              rw [dcK, e5] at hg
              simp only at hg
              have hdl : (bs.drop off).length = bs.length - off := by simp
              have hT : (bs.drop 0).take (bs.length - (bs.drop off).length - 0) = bs.take off := by
                rw [List.drop_zero]
                congr 1; omega
              repeat' (first
  | refine G_nilC ?_
  | refine G_nilN ?_
  | refine G_nilH ?_
  | (refine G_nil ?_; try clear ri_; try clear ops_)
  | (refine V_op ?_; first | exact True.intro | intro v_ h_ w_ r_ t_ | intro (ops_ : Array Oper) ri_ | intro (b_ : Bool) hb_ | intro v_ h_ | intro (v_ : Value) | intro (b_ : Nat) | (refine ⟨fun hc => ?_, fun hc => ?_⟩ <;> try (exfalso; omega)) | refine ⟨?_, ?_⟩ | intro _ | skip)
  | (refine Is_DQ ?_; first | (apply DQ_k rfl rfl rfl; intro mm) | (apply DQ_x rfl rfl rfl; intro mm)))
              · rw [hT] at hc
                rw [if_neg hc] at hg
                subst hg
                refine ret_ rfl (by repeat (first | exact ResAll.nil | (apply ResAll.cons; first | exact .tmp rfl | exact .cell rfl rfl | exact .one rfl))) fun w' h' => ?_
                exact .mk (slNil, slNil) trivial rfl h' (by intro _; exact inferInstance)
              · rw [hT] at hc
                rw [if_pos (Classical.not_not.1 hc)] at hg
                subst hg
                refine ret_ rfl (by repeat (first | exact ResAll.nil | (apply ResAll.cons; first | exact .tmp rfl | exact .cell rfl rfl | exact .one rfl))) fun w' h' => ?_
                exact .mk (x.1, slOf u (bs.drop off)) ⟨rfl, rfl⟩ rfl h' (by intro _; exact inferInstance)
end Go.Proofs.Ytaegfjolemehaaa
