/- Bitpack: Pack, Size and Unpack, in the program. -/
import Derived.Test.YtdngfkmigpnbnaaBph
set_option linter.unusedVariables false
set_option linter.unusedSimpArgs false
set_option maxRecDepth 100000
set_option maxHeartbeats 4000000
namespace Go.Proofs.Ytdngfkmigpnbnaa
open Go.RowKit
attribute [local irreducible] G GC At wpL DR XPost CPost Cut GA GAR GAX GAt NxA GH GHR NxH

section
variable {w0 : World} {O : List Nat} {m : List As}
instance {v : Value} {l : List Int} [h : RdR w0 O m v l] : CallR Try.prog w0 O m 44 [v] (okI l ∧ l.length ≤ 100000) (fun _ : Value => True) (fun r => r) (fun r => row r 5 (packB l) :: m) :=
  .new1 (M := fun r => row r _ (packB l)) fun hs w hw => @bp_form w v l (RdOld.of (h.rd w hw)) hs.1 hs.2
end
theorem bp_Pack (w : World) (v : Value) (l : List Int) [h : RdOld w [] v l] (hi : okI l) : Calls Try.prog 33 #[v] w (Ret w [] (fun _ : Value => True) (fun r => .tuple #[r, I (pkE l)]) (fun r => [row r 5 (pkB l)])) := by
  refine enter (N := 9) (args := [v]) Try.func33 rfl rfl rfl (St.refl w) ?_
  repeat' (first
  | refine G_nilC ?_
  | refine G_nilN ?_
  | refine G_nilH ?_
  | (refine G_nil ?_; try clear ri_; try clear ops_)
  | (refine V_op ?_; first | exact True.intro | (intro v_ h_ w_ r_ t_; try (obtain ⟨ta_, tb_⟩ := (t_ : _ ∧ _)); try (obtain ⟨tb_, tc_⟩ := (tb_ : _ ∧ _)); try (obtain ⟨tc_, td_⟩ := (tc_ : _ ∧ _)); try (obtain ⟨td_, te_⟩ := (td_ : _ ∧ _))) | intro (ops_ : Array Oper) ri_ | intro (b_ : Bool) hb_ | (intro v_ h_; try (have o_ := FrzK.one h_)) | intro (v_ : Value) | intro (b_ : Nat) | (refine ⟨fun hc => ?_, fun hc => ?_⟩ <;> try (exfalso; omega)) | refine ⟨?_, ?_⟩ | intro _ | skip)
  | (refine Is_DQ ?_; first | (apply DQ_m rfl rfl rfl rfl; focus (intro wq_ Oq_ rq_ mm; (repeat (first | (refine G_nil ?_; exact X_done rfl (List.Sublist.refl _)) | refine V_op ?_)); done)) | (apply DQ_k rfl rfl rfl rfl; intro wq_ Oq_ rq_ mm) | (apply DQ_y rfl rfl rfl rfl; intro wq_ Oq_ rq_ mm)))
  · refine ret_ rfl (by repeat (first | exact ResAll.nil | (apply ResAll.cons; first | exact .tmp rfl | exact .cell rfl rfl | exact .one rfl))) fun w' h' => ?_
    rw [pkE, pkB, if_neg (by omega), if_neg (by omega)]
    exact .mk (.slice none 0 0) trivial rfl h'
  · refine ret_ rfl (by repeat (first | exact ResAll.nil | (apply ResAll.cons; first | exact .tmp rfl | exact .cell rfl rfl | exact .one rfl))) fun w' h' => ?_
    rw [pkE, pkB, if_pos (by omega), if_pos (by omega)]
    exact .mk _ trivial rfl h'
section
variable {w0 : World} {O : List Nat} {m : List As}
instance {v : Value} {l : List Int} {b : List (BitVec 8)} {e : Int} [h : RdR w0 O m v l] [hb : Eqn (pkB l) b] [he : Eqn (pkE l) e] : CallR Try.prog w0 O m 33 [v] (okI l) (fun _ : Value => True) (fun r => .tuple #[r, I e]) (fun r => row r 5 b :: m) :=
  .new1 (M := fun r => row r _ b) fun hs w hw => by rw [← hb.eq, ← he.eq]; exact @bp_Pack w v l (RdOld.of (h.rd w hw)) hs
end

/-! ### Unpack -/
def bitU (bs : List (BitVec 8)) (i : Nat) : BitVec 64 := if bitAt bs i then 1#64 else 0#64
theorem bitU_eq {bs : List (BitVec 8)} {i : Nat} (h : i / 8 < bs.length) : (bs[i / 8] >>> (i % 8)).setWidth 64 &&& 1#64 = bitU bs i := by
  have e : bitAt bs i = bs[i / 8].getLsbD (i % 8) := by
    unfold bitAt
    congr 1
    rw [List.getD_eq_getElem?_getD, List.getElem?_eq_getElem h]
    rfl
  unfold bitU
  rw [e]
  apply BitVec.eq_of_toNat_eq
  rw [BitVec.toNat_and, BitVec.toNat_setWidth, BitVec.toNat_ushiftRight, Nat.shiftRight_eq_div_pow, show (1#64).toNat = 1 from rfl, Nat.and_one_is_mod, BitVec.getLsbD, Nat.testBit_eq_decide_div_mod_eq]
  have hx := bs[i / 8].isLt
  have hd := Nat.div_le_self bs[i / 8].toNat (2 ^ (i % 8))
  rw [Nat.mod_eq_of_lt (b := 2 ^ 64) (by omega)]
  by_cases hh : bs[i / 8].toNat / 2 ^ (i % 8) % 2 = 1
  · simp [hh]
  · have : bs[i / 8].toNat / 2 ^ (i % 8) % 2 = 0 := by omega
    simp [this]
theorem bp_bit (w0 : World) (O : List Nat) (m : List As) (b : Nat) (v : Value) (bs : List (BitVec 8)) (i : Nat) [h : RdR w0 O m v bs] [hb : Held b m (.cells #[v] 23)] (hi : i / 8 < bs.length) (hi2 : i ≤ 1000000000000) (w : World) (hst : St w0 O m w) :
    Calls Try.prog 77 #[I i, .pointer (some ⟨b, 0, none⟩)] w (fun e w' => e = .returned (U (bitU bs i)) ∧ St w0 O m w') := by
  refine enterF (N := 14) (args := [I i, .pointer (some ⟨b, 0, none⟩)]) Try.func77 rfl rfl rfl hst ?_
  repeat' (first
  | refine G_nilC ?_
  | refine G_nilN ?_
  | refine G_nilH ?_
  | (refine G_nil ?_; try clear ri_; try clear ops_)
  | (refine V_op ?_; first | exact True.intro | (intro v_ h_ w_ r_ t_; try (obtain ⟨ta_, tb_⟩ := (t_ : _ ∧ _)); try (obtain ⟨tb_, tc_⟩ := (tb_ : _ ∧ _)); try (obtain ⟨tc_, td_⟩ := (tc_ : _ ∧ _)); try (obtain ⟨td_, te_⟩ := (td_ : _ ∧ _))) | intro (ops_ : Array Oper) ri_ | intro (b_ : Bool) hb_ | (intro v_ h_; try (have o_ := FrzK.one h_)) | intro (v_ : Value) | intro (b_ : Nat) | (refine ⟨fun hc => ?_, fun hc => ?_⟩ <;> try (exfalso; omega)) | refine ⟨?_, ?_⟩ | intro _ | skip)
  | (refine Is_DQ ?_; first | (apply DQ_m rfl rfl rfl rfl; focus (intro wq_ Oq_ rq_ mm; (repeat (first | (refine G_nil ?_; exact X_done rfl (List.Sublist.refl _)) | refine V_op ?_)); done)) | (apply DQ_k rfl rfl rfl rfl; intro wq_ Oq_ rq_ mm) | (apply DQ_y rfl rfl rfl rfl; intro wq_ Oq_ rq_ mm)))
  refine ret_ rfl (by repeat (first | exact ResAll.nil | (apply ResAll.cons; first | exact .tmp rfl | exact .cell rfl rfl | exact .one rfl))) fun w' h' => ?_
  rw [bitU_eq hi]
  exact ⟨rfl, h'⟩
instance {w0 : World} {O : List Nat} {m : List As} {b : Nat} {v : Value} {bs : List (BitVec 8)} {a : Int} {i : Nat} {p : Prop} [ha : NatR a i p] [hb : Held b m (.cells #[v] 23)] [h : RdR w0 O m v bs] :
    CallR Try.prog w0 O m 77 [I a, .pointer (some ⟨b, 0, none⟩)] (p ∧ i / 8 < bs.length ∧ i ≤ 1000000000000) (fun _ : Unit => True) (fun _ => U (bitU bs i)) (fun _ => m) :=
  ⟨fun hs w hw => by rw [ha.eq hs.1]; exact (bp_bit w0 O m b v bs i hs.2.1 hs.2.2 w hw).mono (by rintro e w' ⟨he, hst⟩; exact ⟨(), trivial, he, hst⟩)⟩

/-- the rest of the bytes behind what was read -/
def restV (v : Value) (bs : List (BitVec 8)) : Value := match rdB bs with
  | .error _ => .slice none 0 0
  | .ok (n, k) =>
    if n.toNat = 0 then cut (BitVec 8) v k bs.length
    else match rdB (bs.drop k) with
      | .error _ => .slice none 0 0
      | .ok (_, j) => cut (BitVec 8) (cut (BitVec 8) (cut (BitVec 8) (cut (BitVec 8) v k bs.length) j (bs.drop k).length) 1 ((bs.drop k).drop j).length) (siz n.toNat (((bs.drop k).drop j).getD 0 0#8).toNat) (((bs.drop k).drop j).drop 1).length
def unV (q rest : Value) : Except Int (List Int × Nat) → Value
  | .error e => .tuple #[.slice none 0 0, .slice none 0 0, I e]
  | .ok _ => .tuple #[q, rest, I 0]
def unL : Except Int (List Int × Nat) → List Int
  | .error _ => []
  | .ok (l, _) => l
theorem rdL_rest {α : Type} [Elt α] {w : World} {v : Value} {l : List α} (h : RdL w v l) {k : Nat} (hk : k ≤ l.length) : RdL w (cut α v k l.length) (l.drop k) := by
  have := h.cut hk (Nat.le_refl _)
  rwa [List.take_of_length_le (by simp)] at this
theorem unL_err {e : Int} : unL (.error e) = [] := rfl

theorem unp_bits (body : List (BitVec 8)) (at0 k : Nat) : BitVec.ofNat 64 (rdBits body at0 k) ||| bitU body (at0 + k) <<< k = BitVec.ofNat 64 (rdBits body at0 (k + 1)) := by
  show BitVec.ofNat 64 (bitsN (fun k => bitAt body (at0 + k)) k) ||| bitU body (at0 + k) <<< k = BitVec.ofNat 64 (bitsN (fun k => bitAt body (at0 + k)) (k + 1))
  unfold bitU
  by_cases h : bitAt body (at0 + k) = true
  · rw [if_pos h, bitsN_yes (f := fun k => bitAt body (at0 + k)) h, ofNat_or]
  · rw [if_neg h, bitsN_no (f := fun k => bitAt body (at0 + k)) (by simpa using h)]; simp
theorem set_range (f : Nat → Int) (N i : Nat) (h : i < N) : ((List.range i).map f ++ List.replicate (N - i) 0).set i (f i) = (List.range (i + 1)).map f ++ List.replicate (N - (i + 1)) 0 := by
  rw [List.set_append_right _ _ (by simp), show N - i = N - (i + 1) + 1 by omega, List.replicate_succ, show i - ((List.range i).map f).length = 0 by simp, List.set_cons_zero, List.range_succ, List.map_append, List.append_assoc]
  rfl
theorem get_range (f : Nat → Int) (N i : Nat) (h : i < ((List.range (i + 1)).map f ++ List.replicate (N - (i + 1)) 0).length) : ((List.range (i + 1)).map f ++ List.replicate (N - (i + 1)) 0)[i] = f i := by
  rw [List.getElem_append_left (by simp)]; simp
theorem u_min {a b : Nat} (ha : a < 2 ^ 64) (hb : b < 2 ^ 64) : min ((BitVec.ofNat 64 a).toNat : Int) ((BitVec.ofNat 64 b).toNat : Int) = ((BitVec.ofNat 64 (min a b)).toNat : Int) := by
  rw [BitVec.toNat_ofNat, BitVec.toNat_ofNat, BitVec.toNat_ofNat]; omega
theorem u_max {a b : Nat} (ha : a < 2 ^ 64) (hb : b < 2 ^ 64) : max ((BitVec.ofNat 64 a).toNat : Int) ((BitVec.ofNat 64 b).toNat : Int) = ((BitVec.ofNat 64 (max a b)).toNat : Int) := by
  rw [BitVec.toNat_ofNat, BitVec.toNat_ofNat, BitVec.toNat_ofNat]; omega
theorem bitU_zero {bs : List (BitVec 8)} {i : Nat} : ((bitU bs i).toNat : Int) = 0 ↔ bitAt bs i = false := by
  unfold bitU
  cases bitAt bs i <;> simp
theorem leastN_lt (f : Nat → Nat) : ∀ n, leastN f n < 2 ^ 64
  | 0 => by rw [leastN]; decide
  | n + 1 => by have := leastN_lt f n; rw [leastN]; omega
theorem mostN_lt {f : Nat → Nat} (h : ∀ i, f i < 2 ^ 64) : ∀ n, mostN f n < 2 ^ 64
  | 0 => by rw [mostN]; decide
  | n + 1 => by have := mostN_lt h n; have := h n; rw [mostN]; omega
theorem restV_ok {v : Value} {bs : List (BitVec 8)} {n : BitVec 64} {k : Nat} (h1 : rdB bs = .ok (n, k)) : restV v bs = (if n.toNat = 0 then cut (BitVec 8) v k bs.length else match rdB (bs.drop k) with
      | .error _ => .slice none 0 0
      | .ok (_, j) => cut (BitVec 8) (cut (BitVec 8) (cut (BitVec 8) (cut (BitVec 8) v k bs.length) j (bs.drop k).length) 1 ((bs.drop k).drop j).length) (siz n.toNat (((bs.drop k).drop j).getD 0 0#8).toNat) (((bs.drop k).drop j).drop 1).length) := by rw [restV, h1]
theorem bp_Unpack (w : World) (v : Value) (bs : List (BitVec 8)) [h : RdOld w [] v bs] (r : Except Int (List Int × Nat)) (hr : unpB bs = r) :
    Calls Try.prog 74 #[v] w (Ret w [] (fun _ : Value => True) (fun q => unV q (restV v bs) r) (fun q => [row q 3 (unL r)])) := by
  have hlen := h.rd.len_le
  rcases h1 : rdB bs with e | ⟨n, k⟩
  · haveI : Eqn (rdB bs) (.error e) := ⟨h1⟩
    have he := rd_err h1
    obtain rfl : r = .error e := by rw [← hr, unpB, h1]
    refine enter (N := 137) (args := [v]) Try.func74 rfl rfl rfl (St.refl w) ?_
    repeat' (first
  | refine G_nilC ?_
  | refine G_nilN ?_
  | refine G_nilH ?_
  | (refine G_nil ?_; try clear ri_; try clear ops_)
  | (refine V_op ?_; first | exact True.intro | (intro v_ h_ w_ r_ t_; try (obtain ⟨ta_, tb_⟩ := (t_ : _ ∧ _)); try (obtain ⟨tb_, tc_⟩ := (tb_ : _ ∧ _)); try (obtain ⟨tc_, td_⟩ := (tc_ : _ ∧ _)); try (obtain ⟨td_, te_⟩ := (td_ : _ ∧ _))) | intro (ops_ : Array Oper) ri_ | intro (b_ : Bool) hb_ | (intro v_ h_; try (have o_ := FrzK.one h_)) | intro (v_ : Value) | intro (b_ : Nat) | (refine ⟨fun hc => ?_, fun hc => ?_⟩ <;> try (exfalso; omega)) | refine ⟨?_, ?_⟩ | intro _ | skip)
  | (refine Is_DQ ?_; first | (apply DQ_m rfl rfl rfl rfl; focus (intro wq_ Oq_ rq_ mm; (repeat (first | (refine G_nil ?_; exact X_done rfl (List.Sublist.refl _)) | refine V_op ?_)); done)) | (apply DQ_k rfl rfl rfl rfl; intro wq_ Oq_ rq_ mm) | (apply DQ_y rfl rfl rfl rfl; intro wq_ Oq_ rq_ mm)))
    refine ret_ rfl (by repeat (first | exact ResAll.nil | (apply ResAll.cons; first | exact .tmp rfl | exact .cell rfl rfl | exact .one rfl))) fun w' h' => ?_
    simp only [unL]
    exact .mk (.slice none 0 0) trivial rfl h'
  · haveI : Eqn (rdB bs) (.ok (n, k)) := ⟨h1⟩
    have hk := rdB_le h1
    have i1 : RdOld w [] (cut (BitVec 8) v k bs.length) (bs.drop k) := RdOld.of (rdL_rest h.rd hk.2)
    rw [unpB, h1] at hr
    simp only at hr
    have hrest := restV_ok (v := v) h1
    rcases h2 : rdB (bs.drop k) with e | ⟨u, j⟩
    · haveI : Eqn (rdB (bs.drop k)) (.error e) := ⟨h2⟩
      have he := rd_err h2
      rw [h2] at hr hrest
      refine enter (N := 137) (args := [v]) Try.func74 rfl rfl rfl (St.refl w) ?_
      repeat' (first
  | refine G_nilC ?_
  | refine G_nilN ?_
  | refine G_nilH ?_
  | (refine G_nil ?_; try clear ri_; try clear ops_)
  | (refine V_op ?_; first | exact True.intro | (intro v_ h_ w_ r_ t_; try (obtain ⟨ta_, tb_⟩ := (t_ : _ ∧ _)); try (obtain ⟨tb_, tc_⟩ := (tb_ : _ ∧ _)); try (obtain ⟨tc_, td_⟩ := (tc_ : _ ∧ _)); try (obtain ⟨td_, te_⟩ := (td_ : _ ∧ _))) | intro (ops_ : Array Oper) ri_ | intro (b_ : Bool) hb_ | (intro v_ h_; try (have o_ := FrzK.one h_)) | intro (v_ : Value) | intro (b_ : Nat) | (refine ⟨fun hc => ?_, fun hc => ?_⟩ <;> try (exfalso; omega)) | refine ⟨?_, ?_⟩ | intro _ | skip)
  | (refine Is_DQ ?_; first | (apply DQ_m rfl rfl rfl rfl; focus (intro wq_ Oq_ rq_ mm; (repeat (first | (refine G_nil ?_; exact X_done rfl (List.Sublist.refl _)) | refine V_op ?_)); done)) | (apply DQ_k rfl rfl rfl rfl; intro wq_ Oq_ rq_ mm) | (apply DQ_y rfl rfl rfl rfl; intro wq_ Oq_ rq_ mm)))
      · rw [if_pos (by omega)] at hr
        subst hr
        simp only [unL]
        refine ret_ rfl (by repeat (first | exact ResAll.nil | (apply ResAll.cons; first | exact .tmp rfl | exact .cell rfl rfl | exact .one rfl))) fun w' h' => ?_
        exact .mk (.slice none 0 0) trivial rfl h'
      · rw [if_neg (by omega), if_pos (by omega)] at hr
        rw [if_pos (by omega)] at hrest
        subst hr
        rw [hrest]
        simp only [unL]
        refine ret_ rfl (by repeat (first | exact ResAll.nil | (apply ResAll.cons; first | exact .tmp rfl | exact .cell rfl rfl | exact .one rfl))) fun w' h' => ?_
        exact .mk (.slice none 0 0) trivial rfl h'
      · rw [if_neg (by omega), if_neg (by omega)] at hr
        simp only at hr
        subst hr
        simp only [unL]
        refine ret_ rfl (by repeat (first | exact ResAll.nil | (apply ResAll.cons; first | exact .tmp rfl | exact .cell rfl rfl | exact .one rfl))) fun w' h' => ?_
        exact .mk (.slice none 0 0) trivial rfl h'
    · haveI : Eqn (rdB (bs.drop k)) (.ok (u, j)) := ⟨h2⟩
      have hj := rdB_le h2
      have hd1 : (bs.drop k).length = bs.length - k := by simp
      have i2 : RdOld w [] (cut (BitVec 8) (cut (BitVec 8) v k bs.length) j (bs.drop k).length) ((bs.drop k).drop j) := RdOld.of (rdL_rest i1.rd hj.2)
      have hgood := @good_iff bs n u k j h1 h2
      rw [h2] at hr hrest
      simp only at hr hrest
      have hd2 : ((bs.drop k).drop j).length ≤ bs.length := by simp
      generalize (bs.drop k).drop j = b2 at *
      refine enter (N := 137) (args := [v]) Try.func74 rfl rfl rfl (St.refl w) ?_
      repeat' (first
  | refine G_nilC ?_
  | refine G_nilN ?_
  | refine G_nilH ?_
  | (refine G_nil ?_; try clear ri_; try clear ops_)
  | (refine V_op ?_; first | exact True.intro | (intro v_ h_ w_ r_ t_; try (obtain ⟨ta_, tb_⟩ := (t_ : _ ∧ _)); try (obtain ⟨tb_, tc_⟩ := (tb_ : _ ∧ _)); try (obtain ⟨tc_, td_⟩ := (tc_ : _ ∧ _)); try (obtain ⟨td_, te_⟩ := (td_ : _ ∧ _))) | intro (ops_ : Array Oper) ri_ | intro (b_ : Bool) hb_ | (intro v_ h_; try (have o_ := FrzK.one h_)) | intro (v_ : Value) | intro (b_ : Nat) | (refine ⟨fun hc => ?_, fun hc => ?_⟩ <;> try (exfalso; omega)) | refine ⟨?_, ?_⟩ | intro _ | skip)
  | (refine Is_DQ ?_; first | (apply DQ_m rfl rfl rfl rfl; focus (intro wq_ Oq_ rq_ mm; (repeat (first | (refine G_nil ?_; exact X_done rfl (List.Sublist.refl _)) | refine V_op ?_)); done)) | (apply DQ_k rfl rfl rfl rfl; intro wq_ Oq_ rq_ mm) | (apply DQ_y rfl rfl rfl rfl; intro wq_ Oq_ rq_ mm)))
      · rw [if_pos (by omega)] at hr
        subst hr
        simp only [unL]
        refine ret_ rfl (by repeat (first | exact ResAll.nil | (apply ResAll.cons; first | exact .tmp rfl | exact .cell rfl rfl | exact .one rfl))) fun w' h' => ?_
        exact .mk (.slice none 0 0) trivial rfl h'
      · rw [if_neg (by omega), if_pos (by omega)] at hr
        rw [if_pos (by omega)] at hrest
        subst hr
        rw [hrest]
        simp only [unL]
        refine ret_ rfl (by repeat (first | exact ResAll.nil | (apply ResAll.cons; first | exact .tmp rfl | exact .cell rfl rfl | exact .one rfl))) fun w' h' => ?_
        exact .mk (.slice none 0 0) trivial rfl h'
      · rw [if_neg (by omega), if_neg (by omega), unp1, if_pos (by omega)] at hr
        subst hr
        simp only [unL]
        refine ret_ rfl (by repeat (first | exact ResAll.nil | (apply ResAll.cons; first | exact .tmp rfl | exact .cell rfl rfl | exact .one rfl))) fun w' h' => ?_
        exact .mk (.slice none 0 0) trivial rfl h'
      all_goals
        have hpos : 0 < b2.length := by omega
        have hg0 : b2.getD 0 0#8 = b2[0] := by rw [List.getD_eq_getElem?_getD, List.getElem?_eq_getElem hpos]; rfl
        rw [if_neg (by omega), if_neg (by omega), unp1, if_neg (by omega), hg0] at hr
      · rw [if_pos (by omega)] at hr
        subst hr
        simp only [unL]
        refine ret_ rfl (by repeat (first | exact ResAll.nil | (apply ResAll.cons; first | exact .tmp rfl | exact .cell rfl rfl | exact .one rfl))) fun w' h' => ?_
        exact .mk (.slice none 0 0) trivial rfl h'
      · rw [if_neg (by omega)] at hr
        rw [if_neg (by omega), hg0] at hrest
        have i3 : RdOld w [] (cut (BitVec 8) (cut (BitVec 8) (cut (BitVec 8) v k bs.length) j (bs.drop k).length) 1 b2.length) (b2.drop 1) := RdOld.of (rdL_rest i2.rd hpos)
        have hd3 : (b2.drop 1).length = b2.length - 1 := by simp
        have hgd := hgood b2[0] (b2.drop 1) (by simpa using List.drop_eq_getElem_cons hpos) (by omega) (by omega)
        clear hgood hg0
        generalize b2[0] = x at *
        generalize b2.drop 1 = body at *
        have hnI : n.toInt = (n.toNat : Int) := by rw [BitVec.toInt_eq_toNat_cond]; omega
        have hmul : (n.toNat : Int) * (x.toNat : Int) = ((n.toNat * x.toNat : Nat) : Int) := by simp
        have hmb : n.toNat * x.toNat ≤ 262144 := Nat.mul_le_mul (show n.toNat ≤ 4096 by omega) (show x.toNat ≤ 64 by omega)
        have hsz : siz n.toNat x.toNat = (n.toNat * x.toNat + 7) / 8 := rfl
        rw [hnI]
        repeat' (first
  | refine G_nilC ?_
  | refine G_nilN ?_
  | refine G_nilH ?_
  | (refine G_nil ?_; try clear ri_; try clear ops_)
  | (refine V_op ?_; first | exact True.intro | (intro v_ h_ w_ r_ t_; try (obtain ⟨ta_, tb_⟩ := (t_ : _ ∧ _)); try (obtain ⟨tb_, tc_⟩ := (tb_ : _ ∧ _)); try (obtain ⟨tc_, td_⟩ := (tc_ : _ ∧ _)); try (obtain ⟨td_, te_⟩ := (td_ : _ ∧ _))) | intro (ops_ : Array Oper) ri_ | intro (b_ : Bool) hb_ | (intro v_ h_; try (have o_ := FrzK.one h_)) | intro (v_ : Value) | intro (b_ : Nat) | (refine ⟨fun hc => ?_, fun hc => ?_⟩ <;> try (exfalso; omega)) | refine ⟨?_, ?_⟩ | intro _ | skip)
  | (refine Is_DQ ?_; first | (apply DQ_m rfl rfl rfl rfl; focus (intro wq_ Oq_ rq_ mm; (repeat (first | (refine G_nil ?_; exact X_done rfl (List.Sublist.refl _)) | refine V_op ?_)); done)) | (apply DQ_k rfl rfl rfl rfl; intro wq_ Oq_ rq_ mm) | (apply DQ_y rfl rfl rfl rfl; intro wq_ Oq_ rq_ mm)))
        · rw [if_pos (by omega)] at hr
          subst hr
          simp only [unL]
          refine ret_ rfl (by repeat (first | exact ResAll.nil | (apply ResAll.cons; first | exact .tmp rfl | exact .cell rfl rfl | exact .one rfl))) fun w' h' => ?_
          exact .mk (.slice none 0 0) trivial rfl h'
        · rw [if_neg (by omega)] at hr
          replace hgd := hgd (by omega)
          generalize restV v bs = vR at *
          generalize cut (BitVec 8) (cut (BitVec 8) (cut (BitVec 8) v k bs.length) j (bs.drop k).length) 1 b2.length = vB at *
          generalize hlow : unzig u = low at *
          have hlr := unzig_range u
          rw [hlow] at hlr
          clear hlow h1 h2 hd1 hd2 hj hk i1 i2
          simp only [List.length_replicate]
          refine GC_loopS (X := Nat) (fun i => i ≤ n.toNat ∧ ∀ i', i' < i → low ≤ vAt body low x.toNat i') (fun i s => (71, I i) :: (14, U (BitVec.ofNat 64 (leastN (dAt body x.toNat) i))) :: (15, U (BitVec.ofNat 64 (mostN (dAt body x.toNat) i))) :: s)
            (fun i q => row v_ 3 ((List.range i).map (vAt body low x.toNat) ++ List.replicate (n.toNat - i) 0) :: q) (fun i => n.toNat - i) 0 ⟨Nat.zero_le _, by omega⟩ (by repeat (first | exact trivial | refine And.intro rfl ?_)) ?_ (hm0 := by simp only [List.range_zero, List.map_nil, List.nil_append, Nat.sub_zero]; exact rfl)
          rintro i ⟨hi, hge⟩
          have hLn : ((List.range i).map (vAt body low x.toNat) ++ List.replicate (n.toNat - i) (0 : Int)).length = n.toNat := by simp; omega
          repeat' (first
  | refine G_nilC ?_
  | refine G_nilN ?_
  | refine G_nilH ?_
  | (refine G_nil ?_; try clear ri_; try clear ops_)
  | (refine V_op ?_; first | exact True.intro | (intro v_ h_ w_ r_ t_; try (obtain ⟨ta_, tb_⟩ := (t_ : _ ∧ _)); try (obtain ⟨tb_, tc_⟩ := (tb_ : _ ∧ _)); try (obtain ⟨tc_, td_⟩ := (tc_ : _ ∧ _)); try (obtain ⟨td_, te_⟩ := (td_ : _ ∧ _))) | intro (ops_ : Array Oper) ri_ | intro (b_ : Bool) hb_ | (intro v_ h_; try (have o_ := FrzK.one h_)) | intro (v_ : Value) | intro (b_ : Nat) | (refine ⟨fun hc => ?_, fun hc => ?_⟩ <;> try (exfalso; omega)) | refine ⟨?_, ?_⟩ | intro _ | skip)
  | (refine Is_DQ ?_; first | (apply DQ_m rfl rfl rfl rfl; focus (intro wq_ Oq_ rq_ mm; (repeat (first | (refine G_nil ?_; exact X_done rfl (List.Sublist.refl _)) | refine V_op ?_)); done)) | (apply DQ_k rfl rfl rfl rfl; intro wq_ Oq_ rq_ mm) | (apply DQ_y rfl rfl rfl rfl; intro wq_ Oq_ rq_ mm)))
          · have hi2 : i < n.toNat := by omega
            have hm1 : (i + 1) * x.toNat ≤ n.toNat * x.toNat := Nat.mul_le_mul_right _ hi2
            rw [Nat.add_mul, Nat.one_mul] at hm1
            have hc2 : (i : Int) * (x.toNat : Int) = ((i * x.toNat : Nat) : Int) := by simp
            refine GC_loopS (X := Nat) (fun t => t ≤ x.toNat) (fun t s => (75, I t) :: (17, U (BitVec.ofNat 64 (rdBits body (i * x.toNat) t))) :: s) (fun _ q => q) (fun t => x.toNat - t) 0 (Nat.zero_le _) (by repeat (first | exact trivial | refine And.intro rfl ?_)) ?_
            intro t ht
            repeat' (first
  | refine G_nilC ?_
  | refine G_nilN ?_
  | refine G_nilH ?_
  | (refine G_nil ?_; try clear ri_; try clear ops_)
  | (refine V_op ?_; first | exact True.intro | (intro v_ h_ w_ r_ t_; try (obtain ⟨ta_, tb_⟩ := (t_ : _ ∧ _)); try (obtain ⟨tb_, tc_⟩ := (tb_ : _ ∧ _)); try (obtain ⟨tc_, td_⟩ := (tc_ : _ ∧ _)); try (obtain ⟨td_, te_⟩ := (td_ : _ ∧ _))) | intro (ops_ : Array Oper) ri_ | intro (b_ : Bool) hb_ | (intro v_ h_; try (have o_ := FrzK.one h_)) | intro (v_ : Value) | intro (b_ : Nat) | (refine ⟨fun hc => ?_, fun hc => ?_⟩ <;> try (exfalso; omega)) | refine ⟨?_, ?_⟩ | intro _ | skip)
  | (refine Is_DQ ?_; first | (apply DQ_m rfl rfl rfl rfl; focus (intro wq_ Oq_ rq_ mm; (repeat (first | (refine G_nil ?_; exact X_done rfl (List.Sublist.refl _)) | refine V_op ?_)); done)) | (apply DQ_k rfl rfl rfl rfl; intro wq_ Oq_ rq_ mm) | (apply DQ_y rfl rfl rfl rfl; intro wq_ Oq_ rq_ mm)))
            · rw [unp_bits]
              exact At_roundS (t + 1) (by omega) (by omega) (by repeat (first | exact trivial | refine And.intro rfl ?_)) (by repeat (first | exact trivial | refine And.intro rfl ?_))
            · obtain rfl : t = x.toNat := by omega
              have hd64 : ∀ i, dAt body x.toNat i < 2 ^ 64 := fun i => Nat.lt_of_lt_of_le (dAt_lt body x.toNat i) (Nat.pow_le_pow_right (by omega) (by omega))
              have hLn2 : ((List.range (i + 1)).map (vAt body low x.toNat) ++ List.replicate (n.toNat - (i + 1)) (0 : Int)).length = n.toNat := by simp; omega
              rw [show (BitVec.ofInt 64 low + BitVec.ofNat 64 (rdBits body (i * x.toNat) x.toNat)).toInt = vAt body low x.toNat i from rfl, set_range _ _ _ hi2]
              repeat' (first
  | refine G_nilC ?_
  | refine G_nilN ?_
  | refine G_nilH ?_
  | (refine G_nil ?_; try clear ri_; try clear ops_)
  | (refine V_op ?_; first | exact True.intro | (intro v_ h_ w_ r_ t_; try (obtain ⟨ta_, tb_⟩ := (t_ : _ ∧ _)); try (obtain ⟨tb_, tc_⟩ := (tb_ : _ ∧ _)); try (obtain ⟨tc_, td_⟩ := (tc_ : _ ∧ _)); try (obtain ⟨td_, te_⟩ := (td_ : _ ∧ _))) | intro (ops_ : Array Oper) ri_ | intro (b_ : Bool) hb_ | (intro v_ h_; try (have o_ := FrzK.one h_)) | intro (v_ : Value) | intro (b_ : Nat) | (refine ⟨fun hc => ?_, fun hc => ?_⟩ <;> try (exfalso; omega)) | refine ⟨?_, ?_⟩ | intro _ | skip)
  | (refine Is_DQ ?_; first | (apply DQ_m rfl rfl rfl rfl; focus (intro wq_ Oq_ rq_ mm; (repeat (first | (refine G_nil ?_; exact X_done rfl (List.Sublist.refl _)) | refine V_op ?_)); done)) | (apply DQ_k rfl rfl rfl rfl; intro wq_ Oq_ rq_ mm) | (apply DQ_y rfl rfl rfl rfl; intro wq_ Oq_ rq_ mm)))
              · rw [get_range] at hc
                rw [unp2, if_neg (fun hh => by have := hh.1 i hi2; omega)] at hr
                subst hr
                simp only [unL]
                refine ret_ rfl (by repeat (first | exact ResAll.nil | (apply ResAll.cons; first | exact .tmp rfl | exact .cell rfl rfl | exact .one rfl))) fun w' h' => ?_
                exact .mk (.slice none 0 0) trivial rfl h'
              · rw [get_range] at hc
                rw [show rdBits body (i * x.toNat) x.toNat = dAt body x.toNat i from rfl, u_min (leastN_lt _ _) (hd64 i), u_max (mostN_lt hd64 _) (hd64 i)]
                exact At_roundS (i + 1) ⟨by omega, fun i' h' => by
                  by_cases e : i' = i
                  · subst e; omega
                  · exact hge i' (by omega)⟩ (by omega) (by repeat (first | exact trivial | refine And.intro rfl ?_)) (by repeat (first | exact trivial | refine And.intro rfl ?_))
          · rw [hnI]
            obtain rfl : i = n.toNat := by omega
            have hL0 : (List.range n.toNat).map (vAt body low x.toNat) ++ List.replicate (n.toNat - n.toNat) (0 : Int) = lsA body low x.toNat n.toNat := by rw [Nat.sub_self]; simp [lsA]
            replace hgd := hgd hge
            rw [hL0]
            have hd64 : ∀ i, dAt body x.toNat i < 2 ^ 64 := fun i => Nat.lt_of_lt_of_le (dAt_lt body x.toNat i) (Nat.pow_le_pow_right (by omega) (by omega))
            have hl64 := leastN_lt (dAt body x.toNat) n.toNat
            have hm64 := mostN_lt hd64 n.toNat
            repeat' (first
  | refine G_nilC ?_
  | refine G_nilN ?_
  | refine G_nilH ?_
  | (refine G_nil ?_; try clear ri_; try clear ops_)
  | (refine V_op ?_; first | exact True.intro | (intro v_ h_ w_ r_ t_; try (obtain ⟨ta_, tb_⟩ := (t_ : _ ∧ _)); try (obtain ⟨tb_, tc_⟩ := (tb_ : _ ∧ _)); try (obtain ⟨tc_, td_⟩ := (tc_ : _ ∧ _)); try (obtain ⟨td_, te_⟩ := (td_ : _ ∧ _))) | intro (ops_ : Array Oper) ri_ | intro (b_ : Bool) hb_ | (intro v_ h_; try (have o_ := FrzK.one h_)) | intro (v_ : Value) | intro (b_ : Nat) | (refine ⟨fun hc => ?_, fun hc => ?_⟩ <;> try (exfalso; omega)) | refine ⟨?_, ?_⟩ | intro _ | skip)
  | (refine Is_DQ ?_; first | (apply DQ_m rfl rfl rfl rfl; focus (intro wq_ Oq_ rq_ mm; (repeat (first | (refine G_nil ?_; exact X_done rfl (List.Sublist.refl _)) | refine V_op ?_)); done)) | (apply DQ_k rfl rfl rfl rfl; intro wq_ Oq_ rq_ mm) | (apply DQ_y rfl rfl rfl rfl; intro wq_ Oq_ rq_ mm)))
            rw [hmul]
            refine GC_loopS (X := Nat) (fun t => n.toNat * x.toNat ≤ t ∧ t ≤ 8 * siz n.toNat x.toNat ∧ ∀ t', n.toNat * x.toNat ≤ t' → t' < t → bitAt body t' = false) (fun t s => (19, I t) :: s) (fun _ q => q) (fun t => 8 * siz n.toNat x.toNat - t) (n.toNat * x.toNat) ⟨Nat.le_refl _, by omega, fun _ h1 h2 => by omega⟩ (by repeat (first | exact trivial | refine And.intro rfl ?_)) ?_
            rintro t ⟨ht1, ht2, hz⟩
            repeat' (first
  | refine G_nilC ?_
  | refine G_nilN ?_
  | refine G_nilH ?_
  | (refine G_nil ?_; try clear ri_; try clear ops_)
  | (refine V_op ?_; first | exact True.intro | (intro v_ h_ w_ r_ t_; try (obtain ⟨ta_, tb_⟩ := (t_ : _ ∧ _)); try (obtain ⟨tb_, tc_⟩ := (tb_ : _ ∧ _)); try (obtain ⟨tc_, td_⟩ := (tc_ : _ ∧ _)); try (obtain ⟨td_, te_⟩ := (td_ : _ ∧ _))) | intro (ops_ : Array Oper) ri_ | intro (b_ : Bool) hb_ | (intro v_ h_; try (have o_ := FrzK.one h_)) | intro (v_ : Value) | intro (b_ : Nat) | (refine ⟨fun hc => ?_, fun hc => ?_⟩ <;> try (exfalso; omega)) | refine ⟨?_, ?_⟩ | intro _ | skip)
  | (refine Is_DQ ?_; first | (apply DQ_m rfl rfl rfl rfl; focus (intro wq_ Oq_ rq_ mm; (repeat (first | (refine G_nil ?_; exact X_done rfl (List.Sublist.refl _)) | refine V_op ?_)); done)) | (apply DQ_k rfl rfl rfl rfl; intro wq_ Oq_ rq_ mm) | (apply DQ_y rfl rfl rfl rfl; intro wq_ Oq_ rq_ mm)))
            · rw [unp2, if_neg (fun hh => hc (bitU_zero.2 ((hgd.1 hh.2).1 t ht1 (by omega))))] at hr
              subst hr
              simp only [unL]
              refine ret_ rfl (by repeat (first | exact ResAll.nil | (apply ResAll.cons; first | exact .tmp rfl | exact .cell rfl rfl | exact .one rfl))) fun w' h' => ?_
              exact .mk (.slice none 0 0) trivial rfl h'
            · exact At_roundS (t + 1) ⟨by omega, by omega, fun t' h1 h2 => by
                by_cases e : t' = t
                · subst e; exact bitU_zero.1 (Classical.not_not.1 hc)
                · exact hz t' h1 (by omega)⟩ (by omega) (by repeat (first | exact trivial | refine And.intro rfl ?_)) (by repeat (first | exact trivial | refine And.intro rfl ?_))
            · rw [unp2, if_neg (fun hh => hc (by rw [BitVec.toNat_ofNat, (hgd.1 hh.2).2.1]; rfl))] at hr
              subst hr
              simp only [unL]
              refine ret_ rfl (by repeat (first | exact ResAll.nil | (apply ResAll.cons; first | exact .tmp rfl | exact .cell rfl rfl | exact .one rfl))) fun w' h' => ?_
              exact .mk (.slice none 0 0) trivial rfl h'
            · rw [unp2, if_neg (fun hh => hc (by rw [BitVec.toNat_ofNat, Nat.mod_eq_of_lt hm64, (hgd.1 hh.2).2.2]))] at hr
              subst hr
              simp only [unL]
              refine ret_ rfl (by repeat (first | exact ResAll.nil | (apply ResAll.cons; first | exact .tmp rfl | exact .cell rfl rfl | exact .one rfl))) fun w' h' => ?_
              exact .mk (.slice none 0 0) trivial rfl h'
            · rename_i hc8 _
              simp only [BitVec.toNat_ofNat, Nat.mod_eq_of_lt hl64, Nat.mod_eq_of_lt hm64] at hc hc8
              rw [unp2, if_pos ⟨hge, hgd.2 ⟨fun t' h1 h2 => hz t' h1 (by omega), by omega, by omega⟩⟩] at hr
              subst hr
              rw [hrest]
              simp only [unL]
              refine ret_ rfl (by repeat (first | exact ResAll.nil | (apply ResAll.cons; first | exact .tmp rfl | exact .cell rfl rfl | exact .one rfl))) fun w' h' => ?_
              exact .mk _ trivial rfl h'
end Go.Proofs.Ytdngfkmigpnbnaa
