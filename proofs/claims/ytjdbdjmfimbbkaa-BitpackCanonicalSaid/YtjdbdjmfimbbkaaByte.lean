/- Bytes (8 bits without a sign). -/
import Derived.Test.YtjdbdjmfimbbkaaSlc
set_option linter.unusedVariables false
set_option linter.unusedSimpArgs false
namespace Go.Proofs.Ytjdbdjmfimbbkaa
open Go.RowKit

instance isB8_natcast (n : Nat) : IsB8 (n : Int) (BitVec.ofNat 8 n) := ⟨by simp⟩
instance (priority := high) isB8_toNat (x : BitVec 8) : IsB8 (x.toNat : Int) x := ⟨by simp⟩

theorem shr_val8 (p : BitVec 8) (n : Nat) : (p.toNat : Int).fdiv (2 ^ (min n 8)) = ((p >>> n).toNat : Int) := by
  have key : ∀ j : Nat, (p.toNat : Int).fdiv (2 ^ j) = ((p.toNat / 2 ^ j : Nat) : Int) := fun j => by
    rw [pow_cast, Int.fdiv_eq_ediv_of_nonneg _ (Int.natCast_nonneg _), Int.natCast_ediv]
  rw [key, BitVec.toNat_ushiftRight, Nat.shiftRight_eq_div_pow]
  rcases Nat.le_total n 8 with h | h
  · rw [Nat.min_eq_left h]
  · rw [Nat.min_eq_right h, Nat.div_eq_of_lt p.isLt, Nat.div_eq_of_lt (Nat.lt_of_lt_of_le p.isLt (Nat.pow_le_pow_right (by decide) h))]
theorem shl_val8 (p : BitVec 8) (n : Nat) : IntKind.u8.wrap ((p.toNat : Int) * 2 ^ (min n 8)) = ((p <<< n).toNat : Int) := by
  rw [wrap_u8, pow_cast, ← Int.natCast_mul, BitVec.ofInt_natCast, BitVec.toNat_ofNat, BitVec.toNat_shiftLeft, Nat.shiftLeft_eq]
  rcases Nat.le_total n 8 with h | h
  · rw [Nat.min_eq_left h]
  · rw [Nat.min_eq_right h]
    obtain ⟨c, rfl⟩ : ∃ c, n = 8 + c := ⟨n - 8, by omega⟩
    rw [Nat.pow_add, ← Nat.mul_assoc, Nat.mul_mod_left, Nat.mul_right_comm, Nat.mul_mod_left]


section
variable {ro : Option Nat} {P : Program} {N : Nat} {D : List Deferred} {w0 : World} {O : List Nat} {ops : Array Oper} {l : List Oper} {s : List (Nat × Value)} {m : List As} {Q : Exit → Act → World → Prop}
variable {d : Nat} {ty : TypeId} {pos : String} {af : Array Edge}
theorem G_xor8 {t t' : TypeId} {x y : Operand} {a b : Int} {p q : BitVec 8} (hx : ev s x = some (.int .u8 a)) (hy : ev s y = some (.int .u8 b)) [ha : IsB8 a p] [hb : IsB8 b q] (hN : Nat.blt d N = true)
    (k : G ro P N D w0 O ops l ((d, B8 (p ^^^ q)) :: s) m Q) : G ro P N D w0 O ops (⟨some d, .binOp .xor t x y t', ty, pos, af, none⟩ :: l) s m Q :=
  G_bin _ hx hy hN (fun w => by
    simp only [binOp, ne_eq, not_true, if_false, Op.intBits, Sem.run_pure, IntKind.bits]
    rw [ha.eq, hb.eq, wrap_u8_nat]; rfl) k
theorem G_or8 {t t' : TypeId} {x y : Operand} {a b : Int} {p q : BitVec 8} (hx : ev s x = some (.int .u8 a)) (hy : ev s y = some (.int .u8 b)) [ha : IsB8 a p] [hb : IsB8 b q] (hN : Nat.blt d N = true)
    (k : G ro P N D w0 O ops l ((d, B8 (p ||| q)) :: s) m Q) : G ro P N D w0 O ops (⟨some d, .binOp .or t x y t', ty, pos, af, none⟩ :: l) s m Q :=
  G_bin _ hx hy hN (fun w => by
    simp only [binOp, ne_eq, not_true, if_false, Op.intBits, Sem.run_pure, IntKind.bits]
    rw [ha.eq, hb.eq, wrap_u8_nat]; rfl) k
theorem G_and8 {t t' : TypeId} {x y : Operand} {a b : Int} {p q : BitVec 8} (hx : ev s x = some (.int .u8 a)) (hy : ev s y = some (.int .u8 b)) [ha : IsB8 a p] [hb : IsB8 b q] (hN : Nat.blt d N = true)
    (k : G ro P N D w0 O ops l ((d, B8 (p &&& q)) :: s) m Q) : G ro P N D w0 O ops (⟨some d, .binOp .and t x y t', ty, pos, af, none⟩ :: l) s m Q :=
  G_bin _ hx hy hN (fun w => by
    simp only [binOp, ne_eq, not_true, if_false, Op.intBits, Sem.run_pure, IntKind.bits]
    rw [ha.eq, hb.eq, wrap_u8_nat]; rfl) k
theorem G_mul8 {t t' : TypeId} {x y : Operand} {a b : Int} {p q : BitVec 8} (hx : ev s x = some (.int .u8 a)) (hy : ev s y = some (.int .u8 b)) [ha : IsB8 a p] [hb : IsB8 b q] (hN : Nat.blt d N = true)
    (k : G ro P N D w0 O ops l ((d, B8 (p * q)) :: s) m Q) : G ro P N D w0 O ops (⟨some d, .binOp .mul t x y t', ty, pos, af, none⟩ :: l) s m Q :=
  G_bin _ hx hy hN (fun w => by
    simp only [binOp, ne_eq, not_true, if_false, Op.intArith, Sem.run_pure]
    rw [wrap_u8, BitVec.ofInt_mul, ha.eq, hb.eq]) k
theorem G_add8 {t t' : TypeId} {x y : Operand} {a b : Int} {p q : BitVec 8} (hx : ev s x = some (.int .u8 a)) (hy : ev s y = some (.int .u8 b)) [ha : IsB8 a p] [hb : IsB8 b q] (hN : Nat.blt d N = true)
    (k : G ro P N D w0 O ops l ((d, B8 (p + q)) :: s) m Q) : G ro P N D w0 O ops (⟨some d, .binOp .add t x y t', ty, pos, af, none⟩ :: l) s m Q :=
  G_bin _ hx hy hN (fun w => by
    simp only [binOp, ne_eq, not_true, if_false, Op.intArith, Sem.run_pure]
    rw [wrap_u8, BitVec.ofInt_add, ha.eq, hb.eq]) k
theorem G_sub8 {t t' : TypeId} {x y : Operand} {a b : Int} {p q : BitVec 8} (hx : ev s x = some (.int .u8 a)) (hy : ev s y = some (.int .u8 b)) [ha : IsB8 a p] [hb : IsB8 b q] (hN : Nat.blt d N = true)
    (k : G ro P N D w0 O ops l ((d, B8 (p - q)) :: s) m Q) : G ro P N D w0 O ops (⟨some d, .binOp .sub t x y t', ty, pos, af, none⟩ :: l) s m Q :=
  G_bin _ hx hy hN (fun w => by
    simp only [binOp, ne_eq, not_true, if_false, Op.intArith, Sem.run_pure]
    rw [wrap_u8, Int.sub_eq_add_neg, BitVec.ofInt_add, BitVec.ofInt_neg, ha.eq, hb.eq, ← BitVec.sub_eq_add_neg]) k
/-- a shift by a count that is not below zero -/
theorem G_shr8 {t t' : TypeId} {x y : Operand} {a b : Int} {p : BitVec 8} {yk : IntKind} (hx : ev s x = some (.int .u8 a)) (hy : ev s y = some (.int yk b)) (hb0 : a = (p.toNat : Int)) {j : Nat} [hb : IsN b j] (hN : Nat.blt d N = true)
    (k : G ro P N D w0 O ops l ((d, B8 (p >>> j)) :: s) m Q) : G ro P N D w0 O ops (⟨some d, .binOp .shr t x y t', ty, pos, af, none⟩ :: l) s m Q :=
  G_bin _ hx hy hN (fun w => by
    subst hb0
    have hb' := hb.eq
    subst hb'
    have h0 : ¬ (j : Int) < 0 := by omega
    simp only [binOp, Op.shift, if_neg h0, Sem.run_pure]
    exact congrArg (fun n => Result.ok (Value.int .u8 n) w) (shr_val8 p j)) k
theorem G_shl8 {t t' : TypeId} {x y : Operand} {a b : Int} {p : BitVec 8} {yk : IntKind} (hx : ev s x = some (.int .u8 a)) (hy : ev s y = some (.int yk b)) (hb0 : a = (p.toNat : Int)) {j : Nat} [hb : IsN b j] (hN : Nat.blt d N = true)
    (k : G ro P N D w0 O ops l ((d, B8 (p <<< j)) :: s) m Q) : G ro P N D w0 O ops (⟨some d, .binOp .shl t x y t', ty, pos, af, none⟩ :: l) s m Q :=
  G_bin _ hx hy hN (fun w => by
    subst hb0
    have hb' := hb.eq
    subst hb'
    have h0 : ¬ (j : Int) < 0 := by omega
    simp only [binOp, Op.shift, if_neg h0, Sem.run_pure]
    exact congrArg (fun n => Result.ok (Value.int .u8 n) w) (shl_val8 p j)) k


/-- a whole number as a byte -/
theorem G_to_u8 {t t' : TypeId} {x : Operand} {kx : IntKind} {a : Int} {p : BitVec 8} {ut : TypeDesc} [h1 : Und P t ut] [h2 : Und P t' (.int .u8)] (hx : ev s x = some (.int kx a)) [ha : IsB8 a p] (hN : Nat.blt d N = true)
    (k : G ro P N D w0 O ops l ((d, B8 p) :: s) m Q) : G ro P N D w0 O ops (⟨some d, .convert t t' x, ty, pos, af, none⟩ :: l) s m Q :=
  G_conv _ hx hN (by rw [wrap_u8, ha.eq]) k
/-- the lowest byte of 64 bits -/
theorem G_low8 {t t' : TypeId} {x : Operand} {a : Int} {p : BitVec 64} {ut : TypeDesc} [h1 : Und P t ut] [h2 : Und P t' (.int .u8)] (hx : ev s x = some (.int .u64 a)) (ha : a = (p.toNat : Int)) (hN : Nat.blt d N = true)
    (k : G ro P N D w0 O ops l ((d, B8 (p.setWidth 8)) :: s) m Q) : G ro P N D w0 O ops (⟨some d, .convert t t' x, ty, pos, af, none⟩ :: l) s m Q :=
  G_conv _ hx hN (by
    subst ha
    rw [IntKind.wrap_u8, BitVec.toNat_setWidth]
    omega) k

/-! ### numbers with a sign -/
/-- n >> j -/
theorem G_shrI {t t' : TypeId} {x y : Operand} {a b : Int} {yk : IntKind} (hx : ev s x = some (I a)) (hy : ev s y = some (.int yk b)) {j : Nat} [hb : IsN b j] (hj : j ≤ 64) (hN : Nat.blt d N = true)
    (k : G ro P N D w0 O ops l ((d, I (a.fdiv (2 ^ j))) :: s) m Q) : G ro P N D w0 O ops (⟨some d, .binOp .shr t x y t', ty, pos, af, none⟩ :: l) s m Q :=
  G_bin _ hx hy hN (fun w => by
    have hb' := hb.eq
    subst hb'
    have h0 : ¬ (j : Int) < 0 := by omega
    simp only [binOp, Op.shift, if_neg h0, Sem.run_pure, Int.toNat_natCast, IntKind.bits]
    rw [Nat.min_eq_left hj]) k
/-- -n -/
theorem G_neg {t : TypeId} {x : Operand} {a r : Int} (hx : ev s x = some (I a)) (hN : Nat.blt d N = true) (hr : IntKind.i64.wrap (-a) = r)
    (k : G ro P N D w0 O ops l ((d, I r) :: s) m Q) : G ro P N D w0 O ops (⟨some d, .unOp .neg t x, ty, pos, af, none⟩ :: l) s m Q :=
  G_val _ rfl rfl (by simp) hN (fun a w hs hm => by subst hr; simp [execOp, hs.ev hx, Op.unary, Op.intArith]) k
/-- a ^ b -/
theorem G_xorI {t t' : TypeId} {x y : Operand} {a b : Int} (hx : ev s x = some (I a)) (hy : ev s y = some (I b)) (hN : Nat.blt d N = true)
    (k : G ro P N D w0 O ops l ((d, I (BitVec.ofInt 64 a ^^^ BitVec.ofInt 64 b).toInt) :: s) m Q) : G ro P N D w0 O ops (⟨some d, .binOp .xor t x y t', ty, pos, af, none⟩ :: l) s m Q :=
  G_bin _ hx hy hN (fun w => by
    simp only [binOp, ne_eq, not_true, if_false, Op.intBits, Sem.run_pure, IntKind.bits]
    have : ∀ p : BitVec 64, IntKind.i64.wrap (p.toNat : Int) = p.toInt := fun p => by
      rw [IntKind.wrap_i64, BitVec.toInt_eq_toNat_cond]
      have := p.isLt
      split <;> omega
    exact congrArg (fun n => Result.ok (Value.int .i64 n) w) (this _)) k
end
end Go.Proofs.Ytjdbdjmfimbbkaa
