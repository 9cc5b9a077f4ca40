/- Dictionary: the fixed calls. -/
import Derived.Test.YtnncjfphdcfimaaDck
set_option linter.unusedVariables false
set_option linter.unusedSimpArgs false
set_option maxRecDepth 100000
set_option maxHeartbeats 4000000
namespace Go.Proofs.Ytnncjfphdcfimaa
open Go.RowKit
attribute [local irreducible] G GC At wpL DR XPost CPost Cut GA GAR GAX GAt NxA GH GHR NxH
attribute [local irreducible] ofD srtL cmpL

abbrev exD : List ByteArray := [⟨#[97, 98]⟩, ⟨#[97, 98, 99]⟩, ⟨#[98]⟩]
theorem ex_va : VaD [⟨#[97, 98]⟩, ⟨#[97, 98, 99]⟩, ⟨#[98]⟩] := va_iff.2 ⟨by unfold Dic; decide, by decide, by decide⟩
theorem ex_no1 : ¬ VaD [⟨#[98]⟩, ⟨#[97]⟩] := fun h => absurd (va_dic h) (by unfold Dic; decide)
theorem ex_no2 : ¬ VaD [⟨#[98]⟩, ⟨#[98]⟩] := fun h => absurd (va_dic h) (by unfold Dic; decide)
theorem ex_of : ofD [⟨#[98]⟩, ⟨#[97, 98, 99]⟩, ⟨#[97, 98]⟩, ⟨#[98]⟩] = [⟨#[97, 98]⟩, ⟨#[97, 98, 99]⟩, ⟨#[98]⟩] := (ofD_eq (va_dic ex_va) fun s => by
  simp only [List.mem_cons, List.not_mem_nil, or_false]
  constructor
  · rintro (h | h | h) <;> simp [h]
  · rintro (h | h | h | h) <;> simp [h]).symm
theorem ex_pk : pkD [⟨#[97, 98]⟩, ⟨#[97, 98, 99]⟩, ⟨#[98]⟩] = [3#8, 0#8, 2#8, 97#8, 98#8, 2#8, 1#8, 99#8, 0#8, 1#8, 98#8] := by
  have h : pkD [⟨#[97, 98]⟩, ⟨#[97, 98, 99]⟩, ⟨#[98]⟩] = vint 3#64 ++ (vint 0#64 ++ (vint 2#64 ++ ([97#8, 98#8] ++ (vint 2#64 ++ (vint 1#64 ++ ([99#8] ++ (vint 0#64 ++ (vint 1#64 ++ ([98#8] ++ []))))))))) := rfl
  rw [h, vint_small (by decide), vint_small (by decide), vint_small (by decide), vint_small (by decide)]
  rfl
theorem ex_rd (x : BitVec 8) (r : List (BitVec 8)) (hx : x.toNat ≤ 127) : rdB (x :: r) = .ok (x.setWidth 64, 1) := by
  have h1 : (x.setWidth 64).toNat = x.toNat := by rw [BitVec.toNat_setWidth]; omega
  have h := rd_vint (x.setWidth 64) r
  rw [vint_small (by omega)] at h
  have h2 : (x.setWidth 64).setWidth 8 = x := BitVec.eq_of_toNat_eq (by rw [BitVec.toNat_setWidth, h1]; omega)
  rw [h2] at h
  exact h
theorem ex_un1 : unD [] = ([], .error 7) := rfl
theorem ex_un2 : unD [1#8, 1#8, 0#8] = ([], .error 5) := by
  rw [unD, ex_rd _ _ (by decide)]
  simp only
  rw [if_neg (by decide)]
  show unS 1 true [] [1#8, 0#8] = _
  rw [unS, oneS, ex_rd _ _ (by decide)]
  simp only
  rw [show List.drop 1 [1#8, 0#8] = [0#8] from rfl, ex_rd _ _ (by decide)]
  simp only
  rw [if_pos (.inl (by decide))]
theorem uP {d : List ByteArray} (h : VaD d) (r : List (BitVec 8)) : uD (pkD d ++ r) = d ∧ uR (pkD d ++ r) = r ∧ uE (pkD d ++ r) = 0 := by
  have e := un_pk h r
  refine ⟨?_, ?_, ?_⟩
  · rw [uD, e]
  · rw [uR, e]
  · rw [uE, e]
theorem uX {bs : List (BitVec 8)} {l : List ByteArray} {e : Int} (h : unD bs = (l, .error e)) : uD bs = [] ∧ uR bs = [] ∧ uE bs = e := by
  refine ⟨?_, ?_, ?_⟩
  · rw [uD, h]
  · rw [uR, h]
  · rw [uE, h]
theorem law_examples (w : World) : Calls Try.prog 9 #[] w (Is w (.bool true)) := by
  haveI : Eqn (ofD [⟨#[98]⟩, ⟨#[97, 98, 99]⟩, ⟨#[97, 98]⟩, ⟨#[98]⟩]) [⟨#[97, 98]⟩, ⟨#[97, 98, 99]⟩, ⟨#[98]⟩] := ⟨ex_of⟩
  haveI : Yes (VaD [⟨#[97, 98]⟩, ⟨#[97, 98, 99]⟩, ⟨#[98]⟩]) := ⟨ex_va⟩
  haveI : No (VaD [⟨#[98]⟩, ⟨#[97]⟩]) := ⟨ex_no1⟩
  have hp := pa_ok ex_va
  rw [ex_pk] at hp
  haveI : Eqn (paE [⟨#[97, 98]⟩, ⟨#[97, 98, 99]⟩, ⟨#[98]⟩]) 0 := ⟨hp.1⟩
  haveI : Eqn (paR [⟨#[97, 98]⟩, ⟨#[97, 98, 99]⟩, ⟨#[98]⟩]) [3#8, 0#8, 2#8, 97#8, 98#8, 2#8, 1#8, 99#8, 0#8, 1#8, 98#8] := ⟨hp.2⟩
  have hc := cd_ok (d := [⟨#[97, 98]⟩, ⟨#[97, 98, 99]⟩, ⟨#[98]⟩]) (l := [⟨#[98]⟩, ⟨#[97, 98]⟩]) ex_va (by decide)
  haveI : Eqn (cdE [⟨#[97, 98]⟩, ⟨#[97, 98, 99]⟩, ⟨#[98]⟩] [⟨#[98]⟩, ⟨#[97, 98]⟩]) 0 := ⟨hc.1⟩
  haveI : Eqn (cdR [⟨#[97, 98]⟩, ⟨#[97, 98, 99]⟩, ⟨#[98]⟩] [⟨#[98]⟩, ⟨#[97, 98]⟩]) [2, 0] := ⟨by rw [hc.2]; decide⟩
  have hu := uP ex_va []
  rw [ex_pk, List.append_nil] at hu
  haveI : Eqn (uD [3#8, 0#8, 2#8, 97#8, 98#8, 2#8, 1#8, 99#8, 0#8, 1#8, 98#8]) [⟨#[97, 98]⟩, ⟨#[97, 98, 99]⟩, ⟨#[98]⟩] := ⟨hu.1⟩
  haveI : Eqn (uR [3#8, 0#8, 2#8, 97#8, 98#8, 2#8, 1#8, 99#8, 0#8, 1#8, 98#8]) [] := ⟨hu.2.1⟩
  haveI : Eqn (uE [3#8, 0#8, 2#8, 97#8, 98#8, 2#8, 1#8, 99#8, 0#8, 1#8, 98#8]) 0 := ⟨hu.2.2⟩
  have hs := st_ok (d := [⟨#[97, 98]⟩, ⟨#[97, 98, 99]⟩, ⟨#[98]⟩]) (cs := [1, 1]) ex_va (by decide)
  haveI : Eqn (stE [⟨#[97, 98]⟩, ⟨#[97, 98, 99]⟩, ⟨#[98]⟩] [1, 1]) 0 := ⟨hs.1⟩
  haveI : Eqn (stR [⟨#[97, 98]⟩, ⟨#[97, 98, 99]⟩, ⟨#[98]⟩] [1, 1]) [⟨#[97, 98, 99]⟩, ⟨#[97, 98, 99]⟩] := ⟨by rw [hs.2]; rfl⟩
  haveI : Eqn (stE [⟨#[97, 98]⟩, ⟨#[97, 98, 99]⟩, ⟨#[98]⟩] [3]) 1 := ⟨(st_no fun h => absurd (h.2 3 (by simp)) (by decide)).1⟩
  haveI : Eqn (cdE [⟨#[97, 98]⟩, ⟨#[97, 98, 99]⟩, ⟨#[98]⟩] [⟨#[97]⟩]) 4 := ⟨(cd_none (k := 0) ex_va (by decide) (by decide)).1⟩
  haveI : Eqn (cdE [⟨#[98]⟩, ⟨#[97]⟩] []) 1 := ⟨(cd_no ex_no1).1⟩
  haveI : Eqn (paE [⟨#[98]⟩, ⟨#[98]⟩]) 1 := ⟨(pa_no ex_no2).1⟩
  haveI : Eqn (uE []) 7 := ⟨(uX ex_un1).2.2⟩
  haveI : Eqn (uE [1#8, 1#8, 0#8]) 5 := ⟨(uX ex_un2).2.2⟩
  clear hp hc hu hs
  refine enter (N := 107) (args := []) Try.func9 rfl rfl rfl (St.refl w) ?_
  repeat' (first
  | refine G_nilC ?_
  | refine G_nilN ?_
  | refine G_nilH ?_
  | (refine G_nil ?_; try clear ri_; try clear ops_)
  | (refine V_op ?_; first | exact True.intro | (intro v_ h_ w_ r_ t_; try (obtain ⟨ta_, tb_⟩ := (t_ : _ ∧ _)); try (obtain ⟨tb_, tc_⟩ := (tb_ : _ ∧ _)); try (obtain ⟨tc_, td_⟩ := (tc_ : _ ∧ _)); try (obtain ⟨td_, te_⟩ := (td_ : _ ∧ _))) | intro (ops_ : Array Oper) ri_ | intro (b_ : Bool) hb_ | (intro v_ h_; try (have o_ := FrzK.one h_)) | intro (v_ : Value) | intro (b_ : Nat) | (refine ⟨fun hc => ?_, fun hc => ?_⟩ <;> try (exfalso; omega)) | refine ⟨?_, ?_⟩ | intro _ | skip)
  | (refine Is_DQ ?_; first | (apply DQ_m rfl rfl rfl rfl; focus (intro wq_ Oq_ rq_ mm; (repeat (first | (refine G_nil ?_; exact X_done rfl (List.Sublist.refl _)) | refine V_op ?_)); done)) | (apply DQ_k rfl rfl rfl rfl; intro wq_ Oq_ rq_ mm) | (apply DQ_y rfl rfl rfl rfl; intro wq_ Oq_ rq_ mm)))
  refine ret_ rfl (by repeat (first | exact ResAll.nil | (apply ResAll.cons; first | exact .tmp rfl | exact .cell rfl rfl | exact .one rfl))) fun w' h' => ?_
  exact .mk (by first | rfl | rw [decide_eq_true (p := ¬ VaD _) ex_no1]) h'
instance {w0 : World} {O : List Nat} {m : List As} : CallV Try.prog w0 O m 9 [] True (.bool true) := ⟨fun _ w _ => law_examples w⟩
theorem vint_pos' (u : BitVec 64) : 0 < (vint u).length := by
  by_cases h : 127 < u.toNat
  · rw [vint_more u h]; exact Nat.succ_pos _
  · rw [vint_last u h]; exact Nat.succ_pos _
theorem pkG_len : ∀ (t : List ByteArray) (bf : List (BitVec 8)), (∀ s ∈ t, (bL s).length ≤ 255) → (pkG bf t).length ≤ t.length * 300
  | [], _, _ => Nat.le_refl _
  | s :: t, bf, h => by
    have h1 := pkG_len t (bL s) fun x hx => h x (List.mem_cons_of_mem _ hx)
    have h2 := h s (List.mem_cons_self ..)
    have h3 := vint_10 (BitVec.ofNat 64 (shB bf (bL s)))
    have h4 := vint_10 (BitVec.ofNat 64 ((bL s).length - shB bf (bL s)))
    rw [pkG_cons]
    simp only [rcS, List.length_append, List.length_drop, List.length_cons]
    omega
theorem pk_len {d : List ByteArray} (h : VaD d) : 0 < (pkD d).length ∧ (pkD d).length ≤ 10 + d.length * 300 := by
  have h1 := pkG_len d [] (va_len h)
  have h2 := vint_10 (BitVec.ofNat 64 d.length)
  have h3 := vint_pos' (BitVec.ofNat 64 d.length)
  rw [pkD, List.length_append]
  omega
end Go.Proofs.Ytnncjfphdcfimaa
