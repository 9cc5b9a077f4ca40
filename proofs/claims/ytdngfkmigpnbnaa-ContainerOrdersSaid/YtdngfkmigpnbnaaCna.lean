/- Container: digests, checksums, the identities' order. -/
import Derived.Test.YtdngfkmigpnbnaaTyps
import Derived.Test.YtdngfkmigpnbnaaBpk
import Derived.Test.YtdngfkmigpnbnaaDigE
set_option linter.unusedVariables false
set_option linter.unusedSimpArgs false
set_option maxRecDepth 100000
set_option maxHeartbeats 4000000
namespace Go.Proofs.Ytdngfkmigpnbnaa
open Go.RowKit
attribute [local irreducible] G GC At wpL DR XPost CPost Cut GA GAR GAX GAt NxA GH GHR NxH

/-- the digest of bytes -/
def dgB (bs : List (BitVec 8)) : BitVec 64 := stepB (foldB 0x6279746573#64 (words bs)) (BitVec.ofNat 64 bs.length)
/-- its checksum: eight bytes, the lowest first -/
def sumB (bs : List (BitVec 8)) : List (BitVec 8) := leB (dgB bs).toNat 8
@[simp] theorem sumB_length (bs : List (BitVec 8)) : (sumB bs).length = 8 := by simp [sumB]
theorem rd_bytes {w : World} {v : Value} {bs : List (BitVec 8)} (h : RdL w v bs) : Rd w v 1 (bs.map B8) := by
  have h1 : Rd w v (Elt.sz (BitVec 8)) (encs bs) := h
  rw [encs_byte] at h1
  exact h1
section
variable {w0 : World} {O : List Nat} {m : List As}
instance {v : Value} {bs : List (BitVec 8)} [h : RdR w0 O m v bs] : CallV Try.prog w0 O m 46 [v] True (U (dgB bs)) := ⟨fun _ w hw => dig_Bytes v bs w (rd_bytes (h.rd w hw))⟩
instance {v : Value} {bs : List (BitVec 8)} [h : RdR w0 O m v bs] : CallV Try.prog w0 O m 48 [v] (bs.length ≤ 140737488351232) (U (dgB bs)) := ⟨fun hs w hw => ref_Bytes v bs w (rd_bytes (h.rd w hw)) hs⟩
end
theorem leB_snoc : ∀ (k n : Nat), leB n (k + 1) = leB n k ++ [BitVec.ofNat 8 (n / 256 ^ k)]
  | 0, n => by simp [leB]
  | k + 1, n => by
    rw [leB, leB_snoc k (n / 256), leB, List.cons_append, Nat.div_div_eq_div_mul, Nat.pow_succ, Nat.mul_comm 256]
/-- the digest, shifted -/
def shD (d : BitVec 64) : Nat → BitVec 64
  | 0 => d
  | k + 1 => shD d k >>> 8
theorem shD_nat (d : BitVec 64) : ∀ k, (shD d k).toNat = d.toNat / 256 ^ k
  | 0 => by simp [shD]
  | k + 1 => by rw [shD, BitVec.toNat_ushiftRight, shD_nat d k, Nat.shiftRight_eq_div_pow, Nat.div_div_eq_div_mul, show 2 ^ 8 = 256 by decide, ← Nat.pow_succ]
theorem low_shr (d : BitVec 64) (k : Nat) : (shD d k).setWidth 8 = BitVec.ofNat 8 (d.toNat / 256 ^ k) := by
  apply BitVec.eq_of_toNat_eq
  rw [BitVec.toNat_setWidth, shD_nat, BitVec.toNat_ofNat]
theorem pow_256 (k : Nat) : (2 : Nat) ^ (8 * k) = 256 ^ k := by rw [Nat.pow_mul, show (2 : Nat) ^ 8 = 256 by decide]
theorem low_ref (d : BitVec 64) (k : Nat) : (d >>> (8 * k)).setWidth 8 = BitVec.ofNat 8 (d.toNat / 256 ^ k) := by
  apply BitVec.eq_of_toNat_eq
  rw [BitVec.toNat_setWidth, BitVec.toNat_ushiftRight, Nat.shiftRight_eq_div_pow, pow_256, BitVec.toNat_ofNat]
attribute [irreducible] dgB
theorem run_appendSum (w0 : World) (O : List Nat) (m : List As) (v : Value) (bs : List (BitVec 8)) (w : World) (hw : St w0 O (row v 5 bs :: m) w) (hl : bs.length ≤ 1000000) :
    Calls Try.prog 35 #[v] w (fun e w' => ∃ r : Value, True ∧ e = .returned r ∧ St w0 O (row r 5 (bs ++ sumB bs) :: m) w') := by
  refine enterF (N := 17) (args := [v]) Try.func35 rfl rfl rfl hw ?_
  repeat' (first
  | refine G_nilC ?_
  | refine G_nilN ?_
  | refine G_nilH ?_
  | (refine G_nil ?_; try clear ri_; try clear ops_)
  | (refine V_op ?_; first | exact True.intro | (intro v_ h_ w_ r_ t_; try (obtain ⟨ta_, tb_⟩ := (t_ : _ ∧ _)); try (obtain ⟨tb_, tc_⟩ := (tb_ : _ ∧ _)); try (obtain ⟨tc_, td_⟩ := (tc_ : _ ∧ _)); try (obtain ⟨td_, te_⟩ := (td_ : _ ∧ _))) | intro (ops_ : Array Oper) ri_ | intro (b_ : Bool) hb_ | (intro v_ h_; try (have o_ := FrzK.one h_)) | intro (v_ : Value) | intro (b_ : Nat) | (refine ⟨fun hc => ?_, fun hc => ?_⟩ <;> try (exfalso; omega)) | refine ⟨?_, ?_⟩ | intro _ | skip)
  | (refine Is_DQ ?_; first | (apply DQ_m rfl rfl rfl rfl; focus (intro wq_ Oq_ rq_ mm; (repeat (first | (refine G_nil ?_; exact X_done rfl (List.Sublist.refl _)) | refine V_op ?_)); done)) | (apply DQ_k rfl rfl rfl rfl; intro wq_ Oq_ rq_ mm) | (apply DQ_y rfl rfl rfl rfl; intro wq_ Oq_ rq_ mm)))
  refine GC_loopS (X := Nat × Value) (fun y => y.1 ≤ 8) (fun y s => (6, I y.1) :: (3, U (shD (dgB bs) y.1)) :: (0, y.2) :: s) (fun y q => row y.2 5 (bs ++ leB (dgB bs).toNat y.1) :: q) (fun y => 8 - y.1) (0, v) (by simp) (by repeat (first | exact trivial | refine And.intro rfl ?_)) ?_
    (hm0 := by simp only [leB, List.append_nil]; exact rfl)
  rintro ⟨k, q⟩ hk
  simp only at hk ⊢
  have hkl : (leB (dgB bs).toNat k).length = k := by simp
  by_cases hk8 : k < 8
  · haveI : AppN (bs ++ leB (dgB bs).toNat k) [(shD (dgB bs) k).setWidth 8] (bs ++ leB (dgB bs).toNat (k + 1)) := ⟨by rw [low_shr, leB_snoc, List.append_assoc]⟩
    repeat' (first
  | refine G_nilC ?_
  | refine G_nilN ?_
  | refine G_nilH ?_
  | (refine G_nil ?_; try clear ri_; try clear ops_)
  | (refine V_op ?_; first | exact True.intro | (intro v_ h_ w_ r_ t_; try (obtain ⟨ta_, tb_⟩ := (t_ : _ ∧ _)); try (obtain ⟨tb_, tc_⟩ := (tb_ : _ ∧ _)); try (obtain ⟨tc_, td_⟩ := (tc_ : _ ∧ _)); try (obtain ⟨td_, te_⟩ := (td_ : _ ∧ _))) | intro (ops_ : Array Oper) ri_ | intro (b_ : Bool) hb_ | (intro v_ h_; try (have o_ := FrzK.one h_)) | intro (v_ : Value) | intro (b_ : Nat) | (refine ⟨fun hc => ?_, fun hc => ?_⟩ <;> try (exfalso; omega)) | refine ⟨?_, ?_⟩ | intro _ | skip)
  | (refine Is_DQ ?_; first | (apply DQ_m rfl rfl rfl rfl; focus (intro wq_ Oq_ rq_ mm; (repeat (first | (refine G_nil ?_; exact X_done rfl (List.Sublist.refl _)) | refine V_op ?_)); done)) | (apply DQ_k rfl rfl rfl rfl; intro wq_ Oq_ rq_ mm) | (apply DQ_y rfl rfl rfl rfl; intro wq_ Oq_ rq_ mm)))
    rw [show shD (dgB bs) k >>> 8 = shD (dgB bs) (k + 1) from rfl]
    exact At_roundS (k + 1, _) (by simp only; omega) (by simp only; omega) (by repeat (first | exact trivial | refine And.intro rfl ?_)) (by repeat (first | exact trivial | refine And.intro rfl ?_))
  · obtain rfl : k = 8 := by omega
    repeat' (first
  | refine G_nilC ?_
  | refine G_nilN ?_
  | refine G_nilH ?_
  | (refine G_nil ?_; try clear ri_; try clear ops_)
  | (refine V_op ?_; first | exact True.intro | (intro v_ h_ w_ r_ t_; try (obtain ⟨ta_, tb_⟩ := (t_ : _ ∧ _)); try (obtain ⟨tb_, tc_⟩ := (tb_ : _ ∧ _)); try (obtain ⟨tc_, td_⟩ := (tc_ : _ ∧ _)); try (obtain ⟨td_, te_⟩ := (td_ : _ ∧ _))) | intro (ops_ : Array Oper) ri_ | intro (b_ : Bool) hb_ | (intro v_ h_; try (have o_ := FrzK.one h_)) | intro (v_ : Value) | intro (b_ : Nat) | (refine ⟨fun hc => ?_, fun hc => ?_⟩ <;> try (exfalso; omega)) | refine ⟨?_, ?_⟩ | intro _ | skip)
  | (refine Is_DQ ?_; first | (apply DQ_m rfl rfl rfl rfl; focus (intro wq_ Oq_ rq_ mm; (repeat (first | (refine G_nil ?_; exact X_done rfl (List.Sublist.refl _)) | refine V_op ?_)); done)) | (apply DQ_k rfl rfl rfl rfl; intro wq_ Oq_ rq_ mm) | (apply DQ_y rfl rfl rfl rfl; intro wq_ Oq_ rq_ mm)))
    refine ret_ rfl (by repeat (first | exact ResAll.nil | (apply ResAll.cons; first | exact .tmp rfl | exact .cell rfl rfl | exact .one rfl))) fun w' h' => ?_
    exact ⟨_, trivial, rfl, h'⟩
instance {w0 : World} {O : List Nat} {m mk : List As} {v : Value} {bs : List (BitVec 8)} [h : OwnR v m 5 bs mk] : CallR Try.prog w0 O m 35 [v] (bs.length ≤ 1000000) (fun _ : Value => True) (fun r => r) (fun r => row r 5 (bs ++ sumB bs) :: mk) :=
  ⟨fun hs w hw => run_appendSum w0 O mk v bs w (h.ent.st hw) hs⟩
theorem ref_check (w : World) (v : Value) (bs : List (BitVec 8)) [h : RdOld w [] v bs] (hl : bs.length ≤ 1000000) : Calls Try.prog 38 #[v] w (Ret w [] (fun _ : Value => True) (fun r => r) (fun r => [row r 5 (sumB bs)])) := by
  refine enter (N := 23) (args := [v]) Try.func38 rfl rfl rfl (St.refl w) ?_
  repeat' (first
  | refine G_nilC ?_
  | refine G_nilN ?_
  | refine G_nilH ?_
  | (refine G_nil ?_; try clear ri_; try clear ops_)
  | (refine V_op ?_; first | exact True.intro | (intro v_ h_ w_ r_ t_; try (obtain ⟨ta_, tb_⟩ := (t_ : _ ∧ _)); try (obtain ⟨tb_, tc_⟩ := (tb_ : _ ∧ _)); try (obtain ⟨tc_, td_⟩ := (tc_ : _ ∧ _)); try (obtain ⟨td_, te_⟩ := (td_ : _ ∧ _))) | intro (ops_ : Array Oper) ri_ | intro (b_ : Bool) hb_ | (intro v_ h_; try (have o_ := FrzK.one h_)) | intro (v_ : Value) | intro (b_ : Nat) | (refine ⟨fun hc => ?_, fun hc => ?_⟩ <;> try (exfalso; omega)) | refine ⟨?_, ?_⟩ | intro _ | skip)
  | (refine Is_DQ ?_; first | (apply DQ_m rfl rfl rfl rfl; focus (intro wq_ Oq_ rq_ mm; (repeat (first | (refine G_nil ?_; exact X_done rfl (List.Sublist.refl _)) | refine V_op ?_)); done)) | (apply DQ_k rfl rfl rfl rfl; intro wq_ Oq_ rq_ mm) | (apply DQ_y rfl rfl rfl rfl; intro wq_ Oq_ rq_ mm)))
  refine GC_loopS (X := Nat × Value) (fun y => y.1 ≤ 8) (fun y s => (5, I y.1) :: (4, y.2) :: s) (fun y q => row y.2 5 (leB (dgB bs).toNat y.1) :: q) (fun y => 8 - y.1) (0, _) (by simp) (by repeat (first | exact trivial | refine And.intro rfl ?_)) ?_ (hm0 := by simp only [leB]; exact rfl)
  rintro ⟨k, q⟩ hk
  simp only at hk ⊢
  have hkl : (leB (dgB bs).toNat k).length = k := by simp
  by_cases hk8 : k < 8
  · haveI : AppN (leB (dgB bs).toNat k) [(dgB bs >>> (8 * k)).setWidth 8] (leB (dgB bs).toNat (k + 1)) := ⟨by rw [low_ref, leB_snoc]⟩
    repeat' (first
  | refine G_nilC ?_
  | refine G_nilN ?_
  | refine G_nilH ?_
  | (refine G_nil ?_; try clear ri_; try clear ops_)
  | (refine V_op ?_; first | exact True.intro | (intro v_ h_ w_ r_ t_; try (obtain ⟨ta_, tb_⟩ := (t_ : _ ∧ _)); try (obtain ⟨tb_, tc_⟩ := (tb_ : _ ∧ _)); try (obtain ⟨tc_, td_⟩ := (tc_ : _ ∧ _)); try (obtain ⟨td_, te_⟩ := (td_ : _ ∧ _))) | intro (ops_ : Array Oper) ri_ | intro (b_ : Bool) hb_ | (intro v_ h_; try (have o_ := FrzK.one h_)) | intro (v_ : Value) | intro (b_ : Nat) | (refine ⟨fun hc => ?_, fun hc => ?_⟩ <;> try (exfalso; omega)) | refine ⟨?_, ?_⟩ | intro _ | skip)
  | (refine Is_DQ ?_; first | (apply DQ_m rfl rfl rfl rfl; focus (intro wq_ Oq_ rq_ mm; (repeat (first | (refine G_nil ?_; exact X_done rfl (List.Sublist.refl _)) | refine V_op ?_)); done)) | (apply DQ_k rfl rfl rfl rfl; intro wq_ Oq_ rq_ mm) | (apply DQ_y rfl rfl rfl rfl; intro wq_ Oq_ rq_ mm)))
    exact At_roundS (k + 1, _) (by simp only; omega) (by simp only; omega) (by repeat (first | exact trivial | refine And.intro rfl ?_)) (by repeat (first | exact trivial | refine And.intro rfl ?_))
  · obtain rfl : k = 8 := by omega
    repeat' (first
  | refine G_nilC ?_
  | refine G_nilN ?_
  | refine G_nilH ?_
  | (refine G_nil ?_; try clear ri_; try clear ops_)
  | (refine V_op ?_; first | exact True.intro | (intro v_ h_ w_ r_ t_; try (obtain ⟨ta_, tb_⟩ := (t_ : _ ∧ _)); try (obtain ⟨tb_, tc_⟩ := (tb_ : _ ∧ _)); try (obtain ⟨tc_, td_⟩ := (tc_ : _ ∧ _)); try (obtain ⟨td_, te_⟩ := (td_ : _ ∧ _))) | intro (ops_ : Array Oper) ri_ | intro (b_ : Bool) hb_ | (intro v_ h_; try (have o_ := FrzK.one h_)) | intro (v_ : Value) | intro (b_ : Nat) | (refine ⟨fun hc => ?_, fun hc => ?_⟩ <;> try (exfalso; omega)) | refine ⟨?_, ?_⟩ | intro _ | skip)
  | (refine Is_DQ ?_; first | (apply DQ_m rfl rfl rfl rfl; focus (intro wq_ Oq_ rq_ mm; (repeat (first | (refine G_nil ?_; exact X_done rfl (List.Sublist.refl _)) | refine V_op ?_)); done)) | (apply DQ_k rfl rfl rfl rfl; intro wq_ Oq_ rq_ mm) | (apply DQ_y rfl rfl rfl rfl; intro wq_ Oq_ rq_ mm)))
    refine ret_ rfl (by repeat (first | exact ResAll.nil | (apply ResAll.cons; first | exact .tmp rfl | exact .cell rfl rfl | exact .one rfl))) fun w' h' => ?_
    rw [show leB (dgB bs).toNat 8 = sumB bs from rfl] at h'
    exact .mk _ trivial rfl h'
instance {w0 : World} {O : List Nat} {m : List As} {v : Value} {bs : List (BitVec 8)} [h : RdR w0 O m v bs] : CallR Try.prog w0 O m 38 [v] (bs.length ≤ 1000000) (fun _ : Value => True) (fun r => r) (fun r => row r 5 (sumB bs) :: m) :=
  .new1 (M := fun r => row r _ (sumB bs)) fun hs w hw => @ref_check w v bs (RdOld.of (h.rd w hw)) hs
end Go.Proofs.Ytdngfkmigpnbnaa
