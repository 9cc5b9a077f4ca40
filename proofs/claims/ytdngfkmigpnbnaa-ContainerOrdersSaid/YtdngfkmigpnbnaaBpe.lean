/- Bitpack: the packed form, in the reference. -/
import Derived.Test.YtdngfkmigpnbnaaBpd
set_option linter.unusedVariables false
set_option linter.unusedSimpArgs false
set_option maxRecDepth 100000
set_option maxHeartbeats 4000000
namespace Go.Proofs.Ytdngfkmigpnbnaa
open Go.RowKit
attribute [local irreducible] G GC At wpL DR XPost CPost Cut GA GAR GAX GAt NxA GH GHR NxH

theorem and1_8 {x : BitVec 8} {i : Nat} : ((x >>> i &&& 1#8).toNat : Int) = 1 ↔ x.getLsbD i = true := by
  have e : (x >>> i &&& 1#8).toNat = x.toNat / 2 ^ i % 2 := by
    rw [BitVec.toNat_and, BitVec.toNat_ushiftRight, Nat.shiftRight_eq_div_pow]; exact Nat.and_one_is_mod _
  rw [e, BitVec.getLsbD, Nat.testBit_eq_decide_div_mod_eq]
  simp only [decide_eq_true_eq]
  omega
theorem and1_64 {x : BitVec 64} {i : Nat} : ((x >>> i &&& 1#64).toNat : Int) = 1 ↔ x.getLsbD i = true := by
  have e : (x >>> i &&& 1#64).toNat = x.toNat / 2 ^ i % 2 := by
    rw [BitVec.toNat_and, BitVec.toNat_ushiftRight, Nat.shiftRight_eq_div_pow]; exact Nat.and_one_is_mod _
  rw [e, BitVec.getLsbD, Nat.testBit_eq_decide_div_mod_eq]
  simp only [decide_eq_true_eq]
  omega
theorem bitsN_yes {f : Nat → Bool} {n : Nat} (h : f n = true) : bitsN f (n + 1) = bitsN f n ||| 2 ^ n := by rw [bitsN, if_pos h]
theorem bitsN_no {f : Nat → Bool} {n : Nat} (h : f n = false) : bitsN f (n + 1) = bitsN f n := by rw [bitsN, if_neg (by simp [h])]
theorem ofNat_or (a k : Nat) : BitVec.ofNat 64 (a ||| 2 ^ k) = BitVec.ofNat 64 a ||| 1#64 <<< k := by
  apply BitVec.eq_of_getLsbD_eq
  intro i hi
  rw [BitVec.getLsbD_ofNat, BitVec.getLsbD_or, BitVec.getLsbD_ofNat, BitVec.getLsbD_shiftLeft, BitVec.getLsbD_one, Nat.testBit_or, Nat.testBit_two_pow]
  by_cases h1 : i < k
  · have : ¬ k = i := by omega
    simp [h1, this]
  · by_cases h2 : k = i
    · subst h2; simp [hi]
    · have : ¬ i - k = 0 := by omega
      simp [hi, h1, h2, this]

/-- the number in w bits from a place on -/
def rdBits (bs : List (BitVec 8)) (at0 k : Nat) : Nat := bitsN (fun k => (bs.getD ((at0 + k) / 8) 0#8).getLsbD ((at0 + k) % 8)) k
theorem ref_bits (w : World) (v : Value) (bs : List (BitVec 8)) (at0 k0 : Nat) [h : RdOld w [] v bs] (hk : k0 ≤ 64) (hat : at0 + k0 ≤ 8 * bs.length) (hb : at0 ≤ 1000000000) :
    Calls Try.prog 52 #[v, I at0, I k0] w (Is w (U (BitVec.ofNat 64 (rdBits bs at0 k0)))) := by
  have hlen := h.rd.len_le
  refine enter (N := 35) (args := [v, I at0, I k0]) Try.func52 rfl rfl rfl (St.refl w) ?_
  repeat' (first
  | refine G_nilC ?_
  | refine G_nilN ?_
  | refine G_nilH ?_
  | (refine G_nil ?_; try clear ri_; try clear ops_)
  | (refine V_op ?_; first | exact True.intro | (intro v_ h_ w_ r_ t_; try (obtain ⟨ta_, tb_⟩ := (t_ : _ ∧ _)); try (obtain ⟨tb_, tc_⟩ := (tb_ : _ ∧ _)); try (obtain ⟨tc_, td_⟩ := (tc_ : _ ∧ _)); try (obtain ⟨td_, te_⟩ := (td_ : _ ∧ _))) | intro (ops_ : Array Oper) ri_ | intro (b_ : Bool) hb_ | (intro v_ h_; try (have o_ := FrzK.one h_)) | intro (v_ : Value) | intro (b_ : Nat) | (refine ⟨fun hc => ?_, fun hc => ?_⟩ <;> try (exfalso; omega)) | refine ⟨?_, ?_⟩ | intro _ | skip)
  | (refine Is_DQ ?_; first | (apply DQ_m rfl rfl rfl rfl; focus (intro wq_ Oq_ rq_ mm; (repeat (first | (refine G_nil ?_; exact X_done rfl (List.Sublist.refl _)) | refine V_op ?_)); done)) | (apply DQ_k rfl rfl rfl rfl; intro wq_ Oq_ rq_ mm) | (apply DQ_y rfl rfl rfl rfl; intro wq_ Oq_ rq_ mm)))
  refine GC_loopS (X := Nat) (fun k => k ≤ k0) (fun k s => (7, U (BitVec.ofNat 64 (rdBits bs at0 k))) :: (8, I k) :: s) (fun _ r => r) (fun k => k0 - k) 0 (Nat.zero_le _) (by repeat (first | exact trivial | refine And.intro rfl ?_)) ?_
  intro k hk
  repeat' (first
  | refine G_nilC ?_
  | refine G_nilN ?_
  | refine G_nilH ?_
  | (refine G_nil ?_; try clear ri_; try clear ops_)
  | (refine V_op ?_; first | exact True.intro | (intro v_ h_ w_ r_ t_; try (obtain ⟨ta_, tb_⟩ := (t_ : _ ∧ _)); try (obtain ⟨tb_, tc_⟩ := (tb_ : _ ∧ _)); try (obtain ⟨tc_, td_⟩ := (tc_ : _ ∧ _)); try (obtain ⟨td_, te_⟩ := (td_ : _ ∧ _))) | intro (ops_ : Array Oper) ri_ | intro (b_ : Bool) hb_ | (intro v_ h_; try (have o_ := FrzK.one h_)) | intro (v_ : Value) | intro (b_ : Nat) | (refine ⟨fun hc => ?_, fun hc => ?_⟩ <;> try (exfalso; omega)) | refine ⟨?_, ?_⟩ | intro _ | skip)
  | (refine Is_DQ ?_; first | (apply DQ_m rfl rfl rfl rfl; focus (intro wq_ Oq_ rq_ mm; (repeat (first | (refine G_nil ?_; exact X_done rfl (List.Sublist.refl _)) | refine V_op ?_)); done)) | (apply DQ_k rfl rfl rfl rfl; intro wq_ Oq_ rq_ mm) | (apply DQ_y rfl rfl rfl rfl; intro wq_ Oq_ rq_ mm)))
  · have hj : (at0 + k) / 8 < bs.length := by omega
    have e : BitVec.ofNat 64 (rdBits bs at0 (k + 1)) = BitVec.ofNat 64 (rdBits bs at0 k) ||| 1#64 <<< k := by
      unfold rdBits
      rw [bitsN_yes (by simpa [List.getD, hj] using and1_8.1 hc), ofNat_or]
    rw [← e]
    exact At_roundS (k + 1) (by omega) (by omega) (by repeat (first | exact trivial | refine And.intro rfl ?_)) (by repeat (first | exact trivial | refine And.intro rfl ?_))
  · have hj : (at0 + k) / 8 < bs.length := by omega
    have e : BitVec.ofNat 64 (rdBits bs at0 (k + 1)) = BitVec.ofNat 64 (rdBits bs at0 k) := by
      unfold rdBits
      rw [bitsN_no (by simpa [List.getD, hj] using fun h => hc (and1_8.2 h))]
    rw [← e]
    exact At_roundS (k + 1) (by omega) (by omega) (by repeat (first | exact trivial | refine And.intro rfl ?_)) (by repeat (first | exact trivial | refine And.intro rfl ?_))
  · refine ret_ rfl (by repeat (first | exact ResAll.nil | (apply ResAll.cons; first | exact .tmp rfl | exact .cell rfl rfl | exact .one rfl))) fun w' h' => ?_
    obtain rfl : k = k0 := by omega
    exact .mk rfl h'
instance {w0 : World} {O : List Nat} {m : List As} {v : Value} {bs : List (BitVec 8)} {a b : Int} {at0 k0 : Nat} {p q : Prop} [h : RdR w0 O m v bs] [ha : NatR a at0 p] [hb : NatR b k0 q] :
    CallV Try.prog w0 O m 52 [v, I a, I b] ((p ∧ q) ∧ k0 ≤ 64 ∧ at0 + k0 ≤ 8 * bs.length ∧ at0 ≤ 1000000000) (U (BitVec.ofNat 64 (rdBits bs at0 k0))) :=
  ⟨fun hs w hw => by rw [ha.eq hs.1.1, hb.eq hs.1.2]; exact @ref_bits w v bs at0 k0 (RdOld.of (h.rd w hw)) hs.2.1 hs.2.2.1 hs.2.2.2⟩

theorem dif_i (l : List Int) (base : Int) (i : Nat) (h : i < l.length) : BitVec.ofInt 64 l[i] - BitVec.ofInt 64 base = (l.map (dif base))[i]'(by simpa using h) := by simp [dif]
theorem set_app {pre b : List (BitVec 8)} {j : Nat} {x : BitVec 8} : (pre ++ b).set (pre.length + j) x = pre ++ b.set j x := by
  rw [List.set_append_right _ _ (by omega)]; congr 2; omega

theorem put_bit {pre : List (BitVec 8)} {n k t : Nat} (h : t / 8 < k) (h' : pre.length + t / 8 < (pre ++ leB n k).length) :
    (pre ++ leB n k).set (pre.length + t / 8) ((pre ++ leB n k)[pre.length + t / 8]'h' ||| 1#8 <<< (t % 8)) = pre ++ leB (n ||| 2 ^ t) k := by
  rw [set_app, ← leB_set h]
  congr 3
  rw [List.getElem_append_right (by omega)]
  congr 1
  omega
theorem ref_form (w : World) (v : Value) (l : List Int) [h : RdOld w [] v l] (hi : okI l) (hn : l.length ≤ 100000) :
    Calls Try.prog 47 #[v] w (Ret w [] (fun _ : Value => True) (fun r => r) (fun r => [row r 5 (packB l)])) := by
  have hv1 := vint_10 (BitVec.ofNat 64 l.length)
  have hv2 := vint_10 (zig (lmin l))
  have hw := wid_le l
  by_cases h0 : l.length = 0
  · refine enter (N := 104) (args := [v]) Try.func47 rfl rfl rfl (St.refl w) ?_
    repeat' (first
  | refine G_nilC ?_
  | refine G_nilN ?_
  | refine G_nilH ?_
  | (refine G_nil ?_; try clear ri_; try clear ops_)
  | (refine V_op ?_; first | exact True.intro | (intro v_ h_ w_ r_ t_; try (obtain ⟨ta_, tb_⟩ := (t_ : _ ∧ _)); try (obtain ⟨tb_, tc_⟩ := (tb_ : _ ∧ _)); try (obtain ⟨tc_, td_⟩ := (tc_ : _ ∧ _)); try (obtain ⟨td_, te_⟩ := (td_ : _ ∧ _))) | intro (ops_ : Array Oper) ri_ | intro (b_ : Bool) hb_ | (intro v_ h_; try (have o_ := FrzK.one h_)) | intro (v_ : Value) | intro (b_ : Nat) | (refine ⟨fun hc => ?_, fun hc => ?_⟩ <;> try (exfalso; omega)) | refine ⟨?_, ?_⟩ | intro _ | skip)
  | (refine Is_DQ ?_; first | (apply DQ_m rfl rfl rfl rfl; focus (intro wq_ Oq_ rq_ mm; (repeat (first | (refine G_nil ?_; exact X_done rfl (List.Sublist.refl _)) | refine V_op ?_)); done)) | (apply DQ_k rfl rfl rfl rfl; intro wq_ Oq_ rq_ mm) | (apply DQ_y rfl rfl rfl rfl; intro wq_ Oq_ rq_ mm)))
    refine ret_ rfl (by repeat (first | exact ResAll.nil | (apply ResAll.cons; first | exact .tmp rfl | exact .cell rfl rfl | exact .one rfl))) fun w' h' => ?_
    rw [packB, if_pos h0]
    rw [h0] at h'
    exact .mk _ trivial rfl h'
  · have hm1 := hi _ (lmin_mem (show 0 < l.length by omega))
    refine enter (N := 104) (args := [v]) Try.func47 rfl rfl rfl (St.refl w) ?_
    repeat' (first
  | refine G_nilC ?_
  | refine G_nilN ?_
  | refine G_nilH ?_
  | (refine G_nil ?_; try clear ri_; try clear ops_)
  | (refine V_op ?_; first | exact True.intro | (intro v_ h_ w_ r_ t_; try (obtain ⟨ta_, tb_⟩ := (t_ : _ ∧ _)); try (obtain ⟨tb_, tc_⟩ := (tb_ : _ ∧ _)); try (obtain ⟨tc_, td_⟩ := (tc_ : _ ∧ _)); try (obtain ⟨td_, te_⟩ := (td_ : _ ∧ _))) | intro (ops_ : Array Oper) ri_ | intro (b_ : Bool) hb_ | (intro v_ h_; try (have o_ := FrzK.one h_)) | intro (v_ : Value) | intro (b_ : Nat) | (refine ⟨fun hc => ?_, fun hc => ?_⟩ <;> try (exfalso; omega)) | refine ⟨?_, ?_⟩ | intro _ | skip)
  | (refine Is_DQ ?_; first | (apply DQ_m rfl rfl rfl rfl; focus (intro wq_ Oq_ rq_ mm; (repeat (first | (refine G_nil ?_; exact X_done rfl (List.Sublist.refl _)) | refine V_op ?_)); done)) | (apply DQ_k rfl rfl rfl rfl; intro wq_ Oq_ rq_ mm) | (apply DQ_y rfl rfl rfl rfl; intro wq_ Oq_ rq_ mm)))
    rw [show blen (BitVec.ofInt 64 (lmax l) - BitVec.ofInt 64 (lmin l)).toNat = wid l from rfl]
    have hpk0 : packB l = (vint (BitVec.ofNat 64 l.length) ++ (vint (zig (lmin l)) ++ [BitVec.ofNat 8 (wid l)])) ++ leB (bitsN (bf (wid l) (l.map (dif (lmin l)))) (l.length * wid l)) (siz l.length (wid l)) := by rw [packB, if_neg h0, bodyB]; simp
    rw [hpk0]
    clear hpk0
    generalize wid l = W at hw ⊢
    generalize hpre : vint (BitVec.ofNat 64 l.length) ++ (vint (zig (lmin l)) ++ [BitVec.ofNat 8 W]) = pre
    have hpl : pre.length ≤ 21 := by rw [← hpre]; simp; omega
    clear hpre
    have hnw : l.length * W ≤ 6400000 := Nat.le_trans (Nat.mul_le_mul hn hw) (by decide)
    generalize hf : bf W (l.map (dif (lmin l))) = f
    generalize hS : siz l.length W = S
    unfold siz at hS
    refine GC_loopS (X := Nat × Value) (fun y => y.1 ≤ S) (fun y s => (7, I y.1) :: (3, y.2) :: s) (fun y r => row y.2 5 (pre ++ List.replicate y.1 0#8) :: r) (fun y => S - y.1) (0, _) (Nat.zero_le _) (by repeat (first | exact trivial | refine And.intro rfl ?_)) ?_
    rintro ⟨j, r⟩ hj
    simp only at hj ⊢
    have hcast : (l.length : Int) * (W : Int) = ((l.length * W : Nat) : Int) := by simp
    repeat' (first
  | refine G_nilC ?_
  | refine G_nilN ?_
  | refine G_nilH ?_
  | (refine G_nil ?_; try clear ri_; try clear ops_)
  | (refine V_op ?_; first | exact True.intro | (intro v_ h_ w_ r_ t_; try (obtain ⟨ta_, tb_⟩ := (t_ : _ ∧ _)); try (obtain ⟨tb_, tc_⟩ := (tb_ : _ ∧ _)); try (obtain ⟨tc_, td_⟩ := (tc_ : _ ∧ _)); try (obtain ⟨td_, te_⟩ := (td_ : _ ∧ _))) | intro (ops_ : Array Oper) ri_ | intro (b_ : Bool) hb_ | (intro v_ h_; try (have o_ := FrzK.one h_)) | intro (v_ : Value) | intro (b_ : Nat) | (refine ⟨fun hc => ?_, fun hc => ?_⟩ <;> try (exfalso; omega)) | refine ⟨?_, ?_⟩ | intro _ | skip)
  | (refine Is_DQ ?_; first | (apply DQ_m rfl rfl rfl rfl; focus (intro wq_ Oq_ rq_ mm; (repeat (first | (refine G_nil ?_; exact X_done rfl (List.Sublist.refl _)) | refine V_op ?_)); done)) | (apply DQ_k rfl rfl rfl rfl; intro wq_ Oq_ rq_ mm) | (apply DQ_y rfl rfl rfl rfl; intro wq_ Oq_ rq_ mm)))
    · exact At_roundS (j + 1, _) (by simp only; omega) (by simp only; omega) (by repeat (first | exact trivial | refine And.intro rfl ?_)) (by repeat (first | exact trivial | refine And.intro rfl ?_))
    · obtain rfl : j = S := by omega
      rw [← leB_zero]
      refine GC_loopS (X := Nat) (fun i => i ≤ l.length) (fun i s => (8, I i) :: s) (fun i q => row r 5 (pre ++ leB (bitsN f (i * W)) j) :: q) (fun i => l.length - i) 0 (Nat.zero_le _) (by repeat (first | exact trivial | refine And.intro rfl ?_)) ?_ (hm0 := by simp only [Nat.zero_mul, bitsN]; exact rfl)
      intro i hi2
      repeat' (first
  | refine G_nilC ?_
  | refine G_nilN ?_
  | refine G_nilH ?_
  | (refine G_nil ?_; try clear ri_; try clear ops_)
  | (refine V_op ?_; first | exact True.intro | (intro v_ h_ w_ r_ t_; try (obtain ⟨ta_, tb_⟩ := (t_ : _ ∧ _)); try (obtain ⟨tb_, tc_⟩ := (tb_ : _ ∧ _)); try (obtain ⟨tc_, td_⟩ := (tc_ : _ ∧ _)); try (obtain ⟨td_, te_⟩ := (td_ : _ ∧ _))) | intro (ops_ : Array Oper) ri_ | intro (b_ : Bool) hb_ | (intro v_ h_; try (have o_ := FrzK.one h_)) | intro (v_ : Value) | intro (b_ : Nat) | (refine ⟨fun hc => ?_, fun hc => ?_⟩ <;> try (exfalso; omega)) | refine ⟨?_, ?_⟩ | intro _ | skip)
  | (refine Is_DQ ?_; first | (apply DQ_m rfl rfl rfl rfl; focus (intro wq_ Oq_ rq_ mm; (repeat (first | (refine G_nil ?_; exact X_done rfl (List.Sublist.refl _)) | refine V_op ?_)); done)) | (apply DQ_k rfl rfl rfl rfl; intro wq_ Oq_ rq_ mm) | (apply DQ_y rfl rfl rfl rfl; intro wq_ Oq_ rq_ mm)))
      · refine GC_loopS (X := Nat) (fun k => k ≤ W) (fun k s => (10, I k) :: s) (fun k q => row r 5 (pre ++ leB (bitsN f (i * W + k)) j) :: q) (fun k => W - k) 0 (Nat.zero_le _) (by repeat (first | exact trivial | refine And.intro rfl ?_)) ?_
        intro k hk
        have hil : i < l.length := by omega
        have h1 : (i + 1) * W ≤ l.length * W := Nat.mul_le_mul_right _ hil
        rw [Nat.add_mul, Nat.one_mul] at h1
        have hLn : (pre ++ leB (bitsN f (i * W + k)) j).length = pre.length + j := by simp
        have hc2 : (i : Int) * (W : Int) = ((i * W : Nat) : Int) := by simp
        repeat' (first
  | refine G_nilC ?_
  | refine G_nilN ?_
  | refine G_nilH ?_
  | (refine G_nil ?_; try clear ri_; try clear ops_)
  | (refine V_op ?_; first | exact True.intro | (intro v_ h_ w_ r_ t_; try (obtain ⟨ta_, tb_⟩ := (t_ : _ ∧ _)); try (obtain ⟨tb_, tc_⟩ := (tb_ : _ ∧ _)); try (obtain ⟨tc_, td_⟩ := (tc_ : _ ∧ _)); try (obtain ⟨td_, te_⟩ := (td_ : _ ∧ _))) | intro (ops_ : Array Oper) ri_ | intro (b_ : Bool) hb_ | (intro v_ h_; try (have o_ := FrzK.one h_)) | intro (v_ : Value) | intro (b_ : Nat) | (refine ⟨fun hc => ?_, fun hc => ?_⟩ <;> try (exfalso; omega)) | refine ⟨?_, ?_⟩ | intro _ | skip)
  | (refine Is_DQ ?_; first | (apply DQ_m rfl rfl rfl rfl; focus (intro wq_ Oq_ rq_ mm; (repeat (first | (refine G_nil ?_; exact X_done rfl (List.Sublist.refl _)) | refine V_op ?_)); done)) | (apply DQ_k rfl rfl rfl rfl; intro wq_ Oq_ rq_ mm) | (apply DQ_y rfl rfl rfl rfl; intro wq_ Oq_ rq_ mm)))
        · rw [put_bit (by omega), ← bitsN_yes (by rw [← hf, bf_at (by omega) (by simpa using hil)]; simpa [dif] using and1_64.1 hc)]
          exact At_roundS (k + 1) (by omega) (by omega) (by repeat (first | exact trivial | refine And.intro rfl ?_)) (by repeat (first | exact trivial | refine And.intro rfl ?_))
        · have e := bitsN_no (f := f) (n := i * W + k) (by rw [← hf, bf_at (by omega) (by simpa using hil)]; simpa [dif] using fun h => hc (and1_64.2 h))
          rw [← e]
          exact At_roundS (k + 1) (by omega) (by omega) (by repeat (first | exact trivial | refine And.intro rfl ?_)) (by repeat (first | exact trivial | refine And.intro rfl ?_))
        · obtain rfl : k = W := by omega
          exact At_roundS (i + 1) (by omega) (by omega) (by repeat (first | exact trivial | refine And.intro rfl ?_)) (by repeat (first | exact trivial | refine And.intro rfl ?_)) (hw := by rw [Nat.add_mul, Nat.one_mul])
      · refine ret_ rfl (by repeat (first | exact ResAll.nil | (apply ResAll.cons; first | exact .tmp rfl | exact .cell rfl rfl | exact .one rfl))) fun w' h' => ?_
        obtain rfl : i = l.length := by omega
        exact .mk _ trivial rfl h'
section
variable {w0 : World} {O : List Nat} {m : List As}
instance {v : Value} {l : List Int} [h : RdR w0 O m v l] : CallR Try.prog w0 O m 47 [v] (okI l ∧ l.length ≤ 100000) (fun _ : Value => True) (fun r => r) (fun r => row r 5 (packB l) :: m) :=
  .new1 (M := fun r => row r _ (packB l)) fun hs w hw => @ref_form w v l (RdOld.of (h.rd w hw)) hs.1 hs.2
end
/-- what Pack gives -/
def pkB (l : List Int) : List (BitVec 8) := if l.length ≤ 4096 then packB l else []
def pkE (l : List Int) : Int := if l.length ≤ 4096 then 0 else 2
theorem ref_PackIn (w : World) (v : Value) (l : List Int) [h : RdOld w [] v l] (hi : okI l) : Calls Try.prog 36 #[v] w (Ret w [] (fun _ : Value => True) (fun r => .agg #[r, I (pkE l)]) (fun r => [row r 5 (pkB l)])) := by
  refine enter (N := 10) (args := [v]) Try.func36 rfl rfl rfl (St.refl w) ?_
  repeat' (first
  | refine G_nilC ?_
  | refine G_nilN ?_
  | refine G_nilH ?_
  | (refine G_nil ?_; try clear ri_; try clear ops_)
  | (refine V_op ?_; first | exact True.intro | (intro v_ h_ w_ r_ t_; try (obtain ⟨ta_, tb_⟩ := (t_ : _ ∧ _)); try (obtain ⟨tb_, tc_⟩ := (tb_ : _ ∧ _)); try (obtain ⟨tc_, td_⟩ := (tc_ : _ ∧ _)); try (obtain ⟨td_, te_⟩ := (td_ : _ ∧ _))) | intro (ops_ : Array Oper) ri_ | intro (b_ : Bool) hb_ | (intro v_ h_; try (have o_ := FrzK.one h_)) | intro (v_ : Value) | intro (b_ : Nat) | (refine ⟨fun hc => ?_, fun hc => ?_⟩ <;> try (exfalso; omega)) | refine ⟨?_, ?_⟩ | intro _ | skip)
  | (refine Is_DQ ?_; first | (apply DQ_m rfl rfl rfl rfl; focus (intro wq_ Oq_ rq_ mm; (repeat (first | (refine G_nil ?_; exact X_done rfl (List.Sublist.refl _)) | refine V_op ?_)); done)) | (apply DQ_k rfl rfl rfl rfl; intro wq_ Oq_ rq_ mm) | (apply DQ_y rfl rfl rfl rfl; intro wq_ Oq_ rq_ mm)))
  · refine ret_ rfl (by repeat (first | exact ResAll.nil | (apply ResAll.cons; first | exact .tmp rfl | exact .cell rfl rfl | exact .one rfl))) fun w' h' => ?_
    rw [pkE, pkB, if_neg (by omega), if_neg (by omega)]
    exact .mk (.slice none 0 0) trivial rfl h'
  · refine ret_ rfl (by repeat (first | exact ResAll.nil | (apply ResAll.cons; first | exact .tmp rfl | exact .cell rfl rfl | exact .one rfl))) fun w' h' => ?_
    rw [pkE, pkB, if_pos (by omega), if_pos (by omega)]
    exact .mk _ trivial rfl h'
section
variable {w0 : World} {O : List Nat} {m : List As}
instance {v : Value} {l : List Int} {b : List (BitVec 8)} {e : Int} [h : RdR w0 O m v l] [hb : Eqn (pkB l) b] [he : Eqn (pkE l) e] : CallR Try.prog w0 O m 36 [v] (okI l) (fun _ : Value => True) (fun r => .agg #[r, I e]) (fun r => row r 5 b :: m) :=
  .new1 (M := fun r => row r _ b) fun hs w hw => by rw [← hb.eq, ← he.eq]; exact @ref_PackIn w v l (RdOld.of (h.rd w hw)) hs
end
end Go.Proofs.Ytdngfkmigpnbnaa
