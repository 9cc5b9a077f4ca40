/- Bitpack: zigzag codes and variable-length codes, in the program and in the reference. -/
import Derived.Test.YtnncjfphdcfimaaFacts
set_option linter.unusedVariables false
set_option linter.unusedSimpArgs false
set_option maxRecDepth 100000
set_option maxHeartbeats 4000000
namespace Go.Proofs.Ytnncjfphdcfimaa
open Go.RowKit
attribute [local irreducible] G GC At wpL DR XPost CPost Cut GA GAR GAX GAt NxA GH GHR NxH

/-- the zigzag code of n -/
def zig (n : Int) : BitVec 64 := BitVec.ofInt 64 (if n < 0 then -2 * n - 1 else 2 * n)
/-- the number with the code u -/
def unzig (u : BitVec 64) : Int := if u.toNat % 2 = 1 then -((u.toNat / 2 : Nat) : Int) - 1 else ((u.toNat / 2 : Nat) : Int)

theorem fdiv63 (n : Int) (h0 : -9223372036854775808 ≤ n) (h1 : n ≤ 9223372036854775807) : n.fdiv (2 ^ 63) = if n < 0 then -1 else 0 := by
  rw [Int.fdiv_eq_ediv_of_nonneg _ (by decide)]
  split <;> omega

theorem zig_prog (n : Int) (h0 : -9223372036854775808 ≤ n) (h1 : n ≤ 9223372036854775807) : BitVec.ofInt 64 n <<< 1 ^^^ BitVec.ofInt 64 (n.fdiv (2 ^ 63)) = zig n := by
  have e : BitVec.ofInt 64 n <<< 1 = BitVec.ofInt 64 (2 * n) := by
    rw [BitVec.shiftLeft_eq_mul_twoPow, Int.mul_comm, BitVec.ofInt_mul]
    rfl
  rw [fdiv63 n h0 h1, zig, e]
  split
  · have : BitVec.ofInt 64 (-1) = BitVec.allOnes 64 := by decide
    rw [this, BitVec.xor_allOnes]
    apply BitVec.eq_of_toNat_eq
    rw [BitVec.toNat_not, BitVec.toNat_ofInt, BitVec.toNat_ofInt]
    omega
  · simp

theorem zig_ref_neg (n : Int) (h : n < 0) (h0 : -9223372036854775808 ≤ n) : 2#64 * BitVec.ofInt 64 (-(n + 1)) + 1#64 = zig n := by
  apply BitVec.eq_of_toNat_eq
  rw [zig, if_pos h, BitVec.toNat_add, BitVec.toNat_mul, BitVec.toNat_ofInt, BitVec.toNat_ofInt]
  simp only [BitVec.toNat_ofNat]
  omega
theorem zig_ref_pos (n : Int) (h : ¬ n < 0) : 2#64 * BitVec.ofInt 64 n = zig n := by
  rw [zig, if_neg h, BitVec.ofInt_mul]; rfl

theorem and_one (u : BitVec 64) : (u &&& 1#64).toInt = ((u.toNat % 2 : Nat) : Int) := by
  have h : (u &&& 1#64).toNat = u.toNat % 2 := by rw [BitVec.toNat_and]; exact Nat.and_one_is_mod _
  rw [BitVec.toInt_eq_toNat_cond, h]
  omega
theorem shr_one (u : BitVec 64) : (u >>> 1).toNat = u.toNat / 2 := by rw [BitVec.toNat_ushiftRight, Nat.shiftRight_eq_div_pow]
theorem unzig_prog (u : BitVec 64) : (BitVec.ofInt 64 (u >>> 1).toInt ^^^ BitVec.ofInt 64 (-((u.toNat % 2 : Nat) : Int))).toInt = unzig u := by
  have hu := u.isLt
  rw [BitVec.ofInt_toInt]
  unfold unzig
  split
  · rename_i h
    rw [h]
    have : BitVec.ofInt 64 (-((1 : Nat) : Int)) = BitVec.allOnes 64 := by decide
    rw [this, BitVec.xor_allOnes, BitVec.toInt_eq_toNat_cond, BitVec.toNat_not, shr_one]
    split <;> omega
  · rename_i h
    rw [show u.toNat % 2 = 0 by omega]
    rw [show BitVec.ofInt 64 (-((0 : Nat) : Int)) = 0#64 by decide, show u >>> 1 ^^^ 0#64 = u >>> 1 by simp, BitVec.toInt_eq_toNat_cond, shr_one]
    split <;> omega

def vint (u : BitVec 64) : List (BitVec 8) :=
  if 127 < u.toNat then (u.setWidth 8 ||| 128#8) :: vint (u >>> 7) else [u.setWidth 8]
termination_by u.toNat
decreasing_by
  rw [BitVec.toNat_ushiftRight, Nat.shiftRight_eq_div_pow]
  omega

theorem vint_more (u : BitVec 64) (h : 127 < u.toNat) : vint u = (u.setWidth 8 ||| 128#8) :: vint (u >>> 7) := by
  rw [vint, if_pos h]
theorem vint_last (u : BitVec 64) (h : ¬ 127 < u.toNat) : vint u = [u.setWidth 8] := by
  rw [vint, if_neg h]
theorem shr7 (u : BitVec 64) : (u >>> 7).toNat = u.toNat / 128 := by rw [BitVec.toNat_ushiftRight, Nat.shiftRight_eq_div_pow]

theorem byte_more (x : BitVec 64) : (x % 128#64).setWidth 8 + 128#8 = x.setWidth 8 ||| 128#8 := by
  apply BitVec.eq_of_toNat_eq
  have h1 : ((x % 128#64).setWidth 8).toNat = x.toNat % 128 := by
    rw [BitVec.toNat_setWidth, BitVec.toNat_umod, show (128#64).toNat = 128 from rfl]
    omega
  have h2 : (x.setWidth 8).toNat = x.toNat % 256 := by rw [BitVec.toNat_setWidth]
  rw [BitVec.toNat_add, h1, BitVec.toNat_or, h2]
  simp only [BitVec.toNat_ofNat]
  have key : ∀ n : Nat, n < 256 → (n % 128 + 128) % 256 = n ||| 128 := by decide
  have := key (x.toNat % 256) (by omega)
  rw [← this]
  omega
theorem quo_7 (x : BitVec 64) : x / 128#64 = x >>> 7 := by
  apply BitVec.eq_of_toNat_eq
  rw [BitVec.toNat_udiv, shr7]; rfl

/-- a code is of at most 10 bytes: what stands at its k-th byte -/
theorem vint_room {x : BitVec 64} {k : Nat} (h : x.toNat * 128 ^ k < 2 ^ 64) (hx : 127 < x.toNat) : k ≤ 8 := by
  rcases Nat.lt_or_ge k 9 with h' | h'
  · omega
  · have := Nat.pow_le_pow_right (show 0 < 128 by omega) h'
    have h9 : (128 : Nat) ^ 9 = 2 ^ 63 := by decide
    have := Nat.mul_le_mul (show 2 ≤ x.toNat by omega) (h9 ▸ this)
    omega
theorem vint_step {x : BitVec 64} {k : Nat} (h : x.toNat * 128 ^ k < 2 ^ 64) : (x >>> 7).toNat * 128 ^ (k + 1) < 2 ^ 64 := by
  rw [shr7, Nat.pow_succ]
  have := Nat.div_mul_le_self x.toNat 128
  have := Nat.mul_le_mul_right (128 ^ k) this
  rw [Nat.mul_comm (128 ^ k) 128, ← Nat.mul_assoc]
  omega

theorem ref_Varint (w : World) (v : Value) (bs : List (BitVec 8)) (u : BitVec 64) [RdOld w [] v bs] (hb : bs.length ≤ 1000000000000) :
    Calls Try.prog 32 #[v, U u] w (Ret w [] (fun _ : Value => True) (fun r => r) (fun r => [row r 5 (bs ++ vint u)])) := by
  refine enter (N := 25) (args := [v, U u]) Try.func32 rfl rfl rfl (St.refl w) ?_
  repeat' (first
  | refine G_nilC ?_
  | refine G_nilN ?_
  | refine G_nilH ?_
  | (refine G_nil ?_; try clear ri_; try clear ops_)
  | (refine V_op ?_; first | exact True.intro | (intro v_ h_ w_ r_ t_; try (obtain ⟨ta_, tb_⟩ := (t_ : _ ∧ _)); try (obtain ⟨tb_, tc_⟩ := (tb_ : _ ∧ _)); try (obtain ⟨tc_, td_⟩ := (tc_ : _ ∧ _)); try (obtain ⟨td_, te_⟩ := (td_ : _ ∧ _))) | intro (ops_ : Array Oper) ri_ | intro (b_ : Bool) hb_ | (intro v_ h_; try (have o_ := FrzK.one h_)) | intro (v_ : Value) | intro (b_ : Nat) | (refine ⟨fun hc => ?_, fun hc => ?_⟩ <;> try (exfalso; omega)) | refine ⟨?_, ?_⟩ | intro _ | skip)
  | (refine Is_DQ ?_; first | (apply DQ_m rfl rfl rfl rfl; focus (intro wq_ Oq_ rq_ mm; (repeat (first | (refine G_nil ?_; exact X_done rfl (List.Sublist.refl _)) | refine V_op ?_)); done)) | (apply DQ_k rfl rfl rfl rfl; intro wq_ Oq_ rq_ mm) | (apply DQ_y rfl rfl rfl rfl; intro wq_ Oq_ rq_ mm)))
  refine GC_loopS (X := BitVec 64 × Value × List (BitVec 8)) (fun y => y.2.2 ++ vint y.1 = vint u ∧ y.1.toNat * 128 ^ y.2.2.length < 2 ^ 64 ∧ y.2.2.length ≤ 9)
    (fun y s => (1, U y.1) :: (5, y.2.1) :: s) (fun y r => row y.2.1 5 (bs ++ y.2.2) :: r) (fun y => y.1.toNat) (u, _, []) ⟨rfl, by simpa using u.isLt, by simp⟩ (by repeat (first | exact trivial | refine And.intro rfl ?_)) ?_
  rintro ⟨x, r, pre⟩ ⟨hy1, hy2, hy3⟩
  simp only at hy1 hy2 hy3 ⊢
  repeat' (first
  | refine G_nilC ?_
  | refine G_nilN ?_
  | refine G_nilH ?_
  | (refine G_nil ?_; try clear ri_; try clear ops_)
  | (refine V_op ?_; first | exact True.intro | (intro v_ h_ w_ r_ t_; try (obtain ⟨ta_, tb_⟩ := (t_ : _ ∧ _)); try (obtain ⟨tb_, tc_⟩ := (tb_ : _ ∧ _)); try (obtain ⟨tc_, td_⟩ := (tc_ : _ ∧ _)); try (obtain ⟨td_, te_⟩ := (td_ : _ ∧ _))) | intro (ops_ : Array Oper) ri_ | intro (b_ : Bool) hb_ | (intro v_ h_; try (have o_ := FrzK.one h_)) | intro (v_ : Value) | intro (b_ : Nat) | (refine ⟨fun hc => ?_, fun hc => ?_⟩ <;> try (exfalso; omega)) | refine ⟨?_, ?_⟩ | intro _ | skip)
  | (refine Is_DQ ?_; first | (apply DQ_m rfl rfl rfl rfl; focus (intro wq_ Oq_ rq_ mm; (repeat (first | (refine G_nil ?_; exact X_done rfl (List.Sublist.refl _)) | refine V_op ?_)); done)) | (apply DQ_k rfl rfl rfl rfl; intro wq_ Oq_ rq_ mm) | (apply DQ_y rfl rfl rfl rfl; intro wq_ Oq_ rq_ mm)))
  · rw [vint_more x (by omega)] at hy1
    rw [byte_more, quo_7]
    have hp := vint_room hy2 (by omega)
    exact At_roundS (_, _, pre ++ [x.setWidth 8 ||| 128#8]) ⟨by simpa using hy1, by simpa using vint_step hy2, by simp; omega⟩ (by simp only [shr7]; omega) (by repeat (first | exact trivial | refine And.intro rfl ?_)) (by repeat (first | exact trivial | refine And.intro rfl ?_))
  · rw [vint_last x (by omega)] at hy1
    rw [← hy1]
    exact ret_one rfl rfl fun w' h' => .mk _ trivial rfl h'
section
variable {w0 : World} {O : List Nat} {m : List As}
instance {v : Value} {bs q : List (BitVec 8)} (u : BitVec 64) [h : RdR w0 O m v bs] [hq : AppN bs (vint u) q] : CallR Try.prog w0 O m 32 [v, U u] (bs.length ≤ 1000000000000) (fun _ : Value => True) (fun r => r) (fun r => row r 5 q :: m) :=
  .new1 (M := fun r => row r _ q) fun hs w hw => by rw [← hq.eq]; exact @ref_Varint w v bs u (RdOld.of (h.rd w hw)) hs
end

theorem lib_Clip (w : World) (v : Value) (bs : List (BitVec 8)) [h : RdOld w [] v bs] : Calls Try.prog 48 #[v] w (Is w (clipV v)) := by
  obtain ⟨A, c, rfl, h2, _⟩ := h.rd.form
  refine enter (N := 9) (args := [.slice A bs.length c]) Try.func48 rfl rfl rfl (St.refl w) ?_
  repeat' (first
  | refine G_nilC ?_
  | refine G_nilN ?_
  | refine G_nilH ?_
  | (refine G_nil ?_; try clear ri_; try clear ops_)
  | (refine V_op ?_; first | exact True.intro | (intro v_ h_ w_ r_ t_; try (obtain ⟨ta_, tb_⟩ := (t_ : _ ∧ _)); try (obtain ⟨tb_, tc_⟩ := (tb_ : _ ∧ _)); try (obtain ⟨tc_, td_⟩ := (tc_ : _ ∧ _)); try (obtain ⟨td_, te_⟩ := (td_ : _ ∧ _))) | intro (ops_ : Array Oper) ri_ | intro (b_ : Bool) hb_ | (intro v_ h_; try (have o_ := FrzK.one h_)) | intro (v_ : Value) | intro (b_ : Nat) | (refine ⟨fun hc => ?_, fun hc => ?_⟩ <;> try (exfalso; omega)) | refine ⟨?_, ?_⟩ | intro _ | skip)
  | (refine Is_DQ ?_; first | (apply DQ_m rfl rfl rfl rfl; focus (intro wq_ Oq_ rq_ mm; (repeat (first | (refine G_nil ?_; exact X_done rfl (List.Sublist.refl _)) | refine V_op ?_)); done)) | (apply DQ_k rfl rfl rfl rfl; intro wq_ Oq_ rq_ mm) | (apply DQ_y rfl rfl rfl rfl; intro wq_ Oq_ rq_ mm)))
  refine G_clip rfl rfl rfl h2 rfl ?_
  repeat' (first
  | refine G_nilC ?_
  | refine G_nilN ?_
  | refine G_nilH ?_
  | (refine G_nil ?_; try clear ri_; try clear ops_)
  | (refine V_op ?_; first | exact True.intro | (intro v_ h_ w_ r_ t_; try (obtain ⟨ta_, tb_⟩ := (t_ : _ ∧ _)); try (obtain ⟨tb_, tc_⟩ := (tb_ : _ ∧ _)); try (obtain ⟨tc_, td_⟩ := (tc_ : _ ∧ _)); try (obtain ⟨td_, te_⟩ := (td_ : _ ∧ _))) | intro (ops_ : Array Oper) ri_ | intro (b_ : Bool) hb_ | (intro v_ h_; try (have o_ := FrzK.one h_)) | intro (v_ : Value) | intro (b_ : Nat) | (refine ⟨fun hc => ?_, fun hc => ?_⟩ <;> try (exfalso; omega)) | refine ⟨?_, ?_⟩ | intro _ | skip)
  | (refine Is_DQ ?_; first | (apply DQ_m rfl rfl rfl rfl; focus (intro wq_ Oq_ rq_ mm; (repeat (first | (refine G_nil ?_; exact X_done rfl (List.Sublist.refl _)) | refine V_op ?_)); done)) | (apply DQ_k rfl rfl rfl rfl; intro wq_ Oq_ rq_ mm) | (apply DQ_y rfl rfl rfl rfl; intro wq_ Oq_ rq_ mm)))
  exact ret_one rfl rfl fun w' h' => .mk rfl h'
instance {w0 : World} {O : List Nat} {m : List As} {v : Value} {bs : List (BitVec 8)} [h : RdR w0 O m v bs] : CallV Try.prog w0 O m 48 [v] True (clipV v) :=
  ⟨fun _ w hw => @lib_Clip w v bs (RdOld.of (h.rd w hw))⟩

theorem bp_Varint (w : World) (v : Value) (bs : List (BitVec 8)) (u : BitVec 64) [RdOld w [] v bs] (hb : bs.length ≤ 1000000000000) :
    Calls Try.prog 41 #[v, U u] w (Ret w [] (fun _ : Value => True) (fun r => r) (fun r => [row r 5 (bs ++ vint u)])) := by
  refine enter (N := 23) (args := [v, U u]) Try.func41 rfl rfl rfl (St.refl w) ?_
  repeat' (first
  | refine G_nilC ?_
  | refine G_nilN ?_
  | refine G_nilH ?_
  | (refine G_nil ?_; try clear ri_; try clear ops_)
  | (refine V_op ?_; first | exact True.intro | (intro v_ h_ w_ r_ t_; try (obtain ⟨ta_, tb_⟩ := (t_ : _ ∧ _)); try (obtain ⟨tb_, tc_⟩ := (tb_ : _ ∧ _)); try (obtain ⟨tc_, td_⟩ := (tc_ : _ ∧ _)); try (obtain ⟨td_, te_⟩ := (td_ : _ ∧ _))) | intro (ops_ : Array Oper) ri_ | intro (b_ : Bool) hb_ | (intro v_ h_; try (have o_ := FrzK.one h_)) | intro (v_ : Value) | intro (b_ : Nat) | (refine ⟨fun hc => ?_, fun hc => ?_⟩ <;> try (exfalso; omega)) | refine ⟨?_, ?_⟩ | intro _ | skip)
  | (refine Is_DQ ?_; first | (apply DQ_m rfl rfl rfl rfl; focus (intro wq_ Oq_ rq_ mm; (repeat (first | (refine G_nil ?_; exact X_done rfl (List.Sublist.refl _)) | refine V_op ?_)); done)) | (apply DQ_k rfl rfl rfl rfl; intro wq_ Oq_ rq_ mm) | (apply DQ_y rfl rfl rfl rfl; intro wq_ Oq_ rq_ mm)))
  refine GC_loopS (X := BitVec 64 × Option (Value × List (BitVec 8))) (fun y => ((y.2.map (·.2)).getD []) ++ vint y.1 = vint u ∧ y.1.toNat * 128 ^ ((y.2.map (·.2)).getD []).length < 2 ^ 64 ∧ ((y.2.map (·.2)).getD []).length ≤ 9)
    (fun y s => (1, U y.1) :: (5, (y.2.map (·.1)).getD (clipV v)) :: s) (fun y r => match y.2 with | none => r | some p => row p.1 5 (bs ++ p.2) :: r) (fun y => y.1.toNat) (u, none) ⟨rfl, by simpa using u.isLt, by simp⟩ (by repeat (first | exact trivial | refine And.intro rfl ?_)) ?_ (hmx := fun x r => by cases x.2 <;> rfl)
  rintro ⟨x, _ | ⟨r, pre⟩⟩ ⟨hy1, hy2, hy3⟩ <;> simp only [Option.map_some, Option.map_none, Option.getD_some, Option.getD_none, List.nil_append, List.length_nil] at hy1 hy2 hy3 ⊢
  · repeat' (first
  | refine G_nilC ?_
  | refine G_nilN ?_
  | refine G_nilH ?_
  | (refine G_nil ?_; try clear ri_; try clear ops_)
  | (refine V_op ?_; first | exact True.intro | (intro v_ h_ w_ r_ t_; try (obtain ⟨ta_, tb_⟩ := (t_ : _ ∧ _)); try (obtain ⟨tb_, tc_⟩ := (tb_ : _ ∧ _)); try (obtain ⟨tc_, td_⟩ := (tc_ : _ ∧ _)); try (obtain ⟨td_, te_⟩ := (td_ : _ ∧ _))) | intro (ops_ : Array Oper) ri_ | intro (b_ : Bool) hb_ | (intro v_ h_; try (have o_ := FrzK.one h_)) | intro (v_ : Value) | intro (b_ : Nat) | (refine ⟨fun hc => ?_, fun hc => ?_⟩ <;> try (exfalso; omega)) | refine ⟨?_, ?_⟩ | intro _ | skip)
  | (refine Is_DQ ?_; first | (apply DQ_m rfl rfl rfl rfl; focus (intro wq_ Oq_ rq_ mm; (repeat (first | (refine G_nil ?_; exact X_done rfl (List.Sublist.refl _)) | refine V_op ?_)); done)) | (apply DQ_k rfl rfl rfl rfl; intro wq_ Oq_ rq_ mm) | (apply DQ_y rfl rfl rfl rfl; intro wq_ Oq_ rq_ mm)))
    · rw [vint_more x (by omega)] at hy1
      refine G_appFull rfl rfl rfl fun r => ?_
      repeat' (first
  | refine G_nilC ?_
  | refine G_nilN ?_
  | refine G_nilH ?_
  | (refine G_nil ?_; try clear ri_; try clear ops_)
  | (refine V_op ?_; first | exact True.intro | (intro v_ h_ w_ r_ t_; try (obtain ⟨ta_, tb_⟩ := (t_ : _ ∧ _)); try (obtain ⟨tb_, tc_⟩ := (tb_ : _ ∧ _)); try (obtain ⟨tc_, td_⟩ := (tc_ : _ ∧ _)); try (obtain ⟨td_, te_⟩ := (td_ : _ ∧ _))) | intro (ops_ : Array Oper) ri_ | intro (b_ : Bool) hb_ | (intro v_ h_; try (have o_ := FrzK.one h_)) | intro (v_ : Value) | intro (b_ : Nat) | (refine ⟨fun hc => ?_, fun hc => ?_⟩ <;> try (exfalso; omega)) | refine ⟨?_, ?_⟩ | intro _ | skip)
  | (refine Is_DQ ?_; first | (apply DQ_m rfl rfl rfl rfl; focus (intro wq_ Oq_ rq_ mm; (repeat (first | (refine G_nil ?_; exact X_done rfl (List.Sublist.refl _)) | refine V_op ?_)); done)) | (apply DQ_k rfl rfl rfl rfl; intro wq_ Oq_ rq_ mm) | (apply DQ_y rfl rfl rfl rfl; intro wq_ Oq_ rq_ mm)))
      exact At_roundS (_, some (r, [x.setWidth 8 ||| 128#8])) ⟨by simpa using hy1, by simpa using vint_step hy2, by simp⟩ (by simp only [shr7]; omega) (by repeat (first | exact trivial | refine And.intro rfl ?_)) (by repeat (first | exact trivial | refine And.intro rfl ?_))
    · rw [vint_last x (by omega)] at hy1
      refine G_appFull rfl rfl rfl fun r => ?_
      repeat' (first
  | refine G_nilC ?_
  | refine G_nilN ?_
  | refine G_nilH ?_
  | (refine G_nil ?_; try clear ri_; try clear ops_)
  | (refine V_op ?_; first | exact True.intro | (intro v_ h_ w_ r_ t_; try (obtain ⟨ta_, tb_⟩ := (t_ : _ ∧ _)); try (obtain ⟨tb_, tc_⟩ := (tb_ : _ ∧ _)); try (obtain ⟨tc_, td_⟩ := (tc_ : _ ∧ _)); try (obtain ⟨td_, te_⟩ := (td_ : _ ∧ _))) | intro (ops_ : Array Oper) ri_ | intro (b_ : Bool) hb_ | (intro v_ h_; try (have o_ := FrzK.one h_)) | intro (v_ : Value) | intro (b_ : Nat) | (refine ⟨fun hc => ?_, fun hc => ?_⟩ <;> try (exfalso; omega)) | refine ⟨?_, ?_⟩ | intro _ | skip)
  | (refine Is_DQ ?_; first | (apply DQ_m rfl rfl rfl rfl; focus (intro wq_ Oq_ rq_ mm; (repeat (first | (refine G_nil ?_; exact X_done rfl (List.Sublist.refl _)) | refine V_op ?_)); done)) | (apply DQ_k rfl rfl rfl rfl; intro wq_ Oq_ rq_ mm) | (apply DQ_y rfl rfl rfl rfl; intro wq_ Oq_ rq_ mm)))
      rw [← hy1]
      exact ret_one rfl rfl fun w' h' => .mk _ trivial rfl h'
  · repeat' (first
  | refine G_nilC ?_
  | refine G_nilN ?_
  | refine G_nilH ?_
  | (refine G_nil ?_; try clear ri_; try clear ops_)
  | (refine V_op ?_; first | exact True.intro | (intro v_ h_ w_ r_ t_; try (obtain ⟨ta_, tb_⟩ := (t_ : _ ∧ _)); try (obtain ⟨tb_, tc_⟩ := (tb_ : _ ∧ _)); try (obtain ⟨tc_, td_⟩ := (tc_ : _ ∧ _)); try (obtain ⟨td_, te_⟩ := (td_ : _ ∧ _))) | intro (ops_ : Array Oper) ri_ | intro (b_ : Bool) hb_ | (intro v_ h_; try (have o_ := FrzK.one h_)) | intro (v_ : Value) | intro (b_ : Nat) | (refine ⟨fun hc => ?_, fun hc => ?_⟩ <;> try (exfalso; omega)) | refine ⟨?_, ?_⟩ | intro _ | skip)
  | (refine Is_DQ ?_; first | (apply DQ_m rfl rfl rfl rfl; focus (intro wq_ Oq_ rq_ mm; (repeat (first | (refine G_nil ?_; exact X_done rfl (List.Sublist.refl _)) | refine V_op ?_)); done)) | (apply DQ_k rfl rfl rfl rfl; intro wq_ Oq_ rq_ mm) | (apply DQ_y rfl rfl rfl rfl; intro wq_ Oq_ rq_ mm)))
    · rw [vint_more x (by omega)] at hy1
      have hp := vint_room hy2 (by omega)
      exact At_roundS (_, some (_, pre ++ [x.setWidth 8 ||| 128#8])) ⟨by simpa using hy1, by simpa using vint_step hy2, by simp; omega⟩ (by simp only [shr7]; omega) (by repeat (first | exact trivial | refine And.intro rfl ?_)) (by repeat (first | exact trivial | refine And.intro rfl ?_))
    · rw [vint_last x (by omega)] at hy1
      rw [← hy1]
      exact ret_one rfl rfl fun w' h' => .mk _ trivial rfl h'
instance {w0 : World} {O : List Nat} {m : List As} {v : Value} {bs q : List (BitVec 8)} (u : BitVec 64) [h : RdR w0 O m v bs] [hq : AppN bs (vint u) q] : CallR Try.prog w0 O m 41 [v, U u] (bs.length ≤ 1000000000000) (fun _ : Value => True) (fun r => r) (fun r => row r 5 q :: m) :=
  .new1 (M := fun r => row r _ q) fun hs w hw => by rw [← hq.eq]; exact @bp_Varint w v bs u (RdOld.of (h.rd w hw)) hs
end Go.Proofs.Ytnncjfphdcfimaa
