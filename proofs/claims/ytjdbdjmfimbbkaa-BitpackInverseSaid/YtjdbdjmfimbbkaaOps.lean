/- The rules of the operations. -/
import Derived.Test.YtjdbdjmfimbbkaaRules
set_option linter.unusedVariables false
set_option linter.unusedSimpArgs false
namespace Go.Proofs.Ytjdbdjmfimbbkaa
open Go.RowKit

/-! ### Numbers -/
abbrev I (n : Int) : Value := .int .i64 n
abbrev U (x : BitVec 64) : Value := .int .u64 (x.toNat : Int)
abbrev B8 (x : BitVec 8) : Value := .int .u8 (x.toNat : Int)

/-- x is the integer n as 64 bits. -/
class IsB (n : Int) (x : outParam (BitVec 64)) : Prop where
  eq : BitVec.ofInt 64 n = x
instance (priority := low) isB_any (n : Int) : IsB n (BitVec.ofInt 64 n) := ⟨rfl⟩
instance isB_nat (x : BitVec 64) : IsB (x.toNat : Int) x := ⟨by simp⟩
instance isB_lit (n : Nat) : IsB (no_index (OfNat.ofNat n)) (BitVec.ofNat 64 (OfNat.ofNat n)) := ⟨by
  show BitVec.ofInt 64 ((n : Nat) : Int) = BitVec.ofNat 64 n
  simp⟩

instance isB_natcast (n : Nat) : IsB (n : Int) (BitVec.ofNat 64 n) := ⟨by simp⟩
instance (priority := high) isB_toNat (x : BitVec 64) : IsB (x.toNat : Int) x := ⟨by simp⟩

class IsB8 (n : Int) (x : outParam (BitVec 8)) : Prop where
  eq : BitVec.ofInt 8 n = x
instance (priority := low) isB8_any (n : Int) : IsB8 n (BitVec.ofInt 8 n) := ⟨rfl⟩
instance isB8_nat (x : BitVec 8) : IsB8 (x.toNat : Int) x := ⟨by simp⟩
instance isB8_lit (n : Nat) : IsB8 (no_index (OfNat.ofNat n)) (BitVec.ofNat 8 (OfNat.ofNat n)) := ⟨by
  show BitVec.ofInt 8 ((n : Nat) : Int) = BitVec.ofNat 8 n
  simp⟩

theorem wrap_u64 (n : Int) : IntKind.u64.wrap n = ((BitVec.ofInt 64 n).toNat : Int) := by
  simp [IntKind.wrap, IntKind.bits, IntKind.signed, BitVec.toNat_ofInt]
  omega
theorem wrap_u8 (n : Int) : IntKind.u8.wrap n = ((BitVec.ofInt 8 n).toNat : Int) := by
  simp [IntKind.wrap, IntKind.bits, IntKind.signed, BitVec.toNat_ofInt]
  omega
theorem wrap_u64_nat (x : BitVec 64) : IntKind.u64.wrap (x.toNat : Int) = (x.toNat : Int) := by rw [wrap_u64]; simp
theorem wrap_u8_nat (x : BitVec 8) : IntKind.u8.wrap (x.toNat : Int) = (x.toNat : Int) := by rw [wrap_u8]; simp

theorem pow_cast (j : Nat) : (2 : Int) ^ j = ((2 ^ j : Nat) : Int) := by rw [Int.natCast_pow]; rfl
theorem shr_val (p : BitVec 64) (n : Nat) : (p.toNat : Int).fdiv (2 ^ (min n 64)) = ((p >>> n).toNat : Int) := by
  have key : ∀ j : Nat, (p.toNat : Int).fdiv (2 ^ j) = ((p.toNat / 2 ^ j : Nat) : Int) := fun j => by
    rw [pow_cast, Int.fdiv_eq_ediv_of_nonneg _ (Int.natCast_nonneg _), Int.natCast_ediv]
  rw [key, BitVec.toNat_ushiftRight, Nat.shiftRight_eq_div_pow]
  rcases Nat.le_total n 64 with h | h
  · rw [Nat.min_eq_left h]
  · rw [Nat.min_eq_right h, Nat.div_eq_of_lt p.isLt, Nat.div_eq_of_lt (Nat.lt_of_lt_of_le p.isLt (Nat.pow_le_pow_right (by decide) h))]
theorem shl_val (p : BitVec 64) (n : Nat) : IntKind.u64.wrap ((p.toNat : Int) * 2 ^ (min n 64)) = ((p <<< n).toNat : Int) := by
  rw [wrap_u64, pow_cast, ← Int.natCast_mul, BitVec.ofInt_natCast, BitVec.toNat_ofNat, BitVec.toNat_shiftLeft, Nat.shiftLeft_eq]
  rcases Nat.le_total n 64 with h | h
  · rw [Nat.min_eq_left h]
  · rw [Nat.min_eq_right h]
    obtain ⟨c, rfl⟩ : ∃ c, n = 64 + c := ⟨n - 64, by omega⟩
    rw [Nat.pow_add, ← Nat.mul_assoc, Nat.mul_mod_left, Nat.mul_right_comm, Nat.mul_mod_left]

/-- j is the integer n, not below zero -/
class IsN (n : Int) (j : outParam Nat) : Prop where
  eq : n = (j : Int)
instance isN_nat (j : Nat) : IsN (j : Int) j := ⟨rfl⟩
instance isN_lit (n : Nat) : IsN (no_index (OfNat.ofNat n)) (OfNat.ofNat n) := ⟨rfl⟩

/-! ### One operation -/
section
variable {ro : Option Nat} {P : Program} {N : Nat} {D : List Deferred} {w0 : World} {O : List Nat} {ops : Array Oper} {l : List Oper} {s : List (Nat × Value)} {m : List As} {Q : Exit → Act → World → Prop}

/-- An operation that yields a value. -/
theorem G_any {ι : Type} {o : Oper} {d : Nat} (V : ι → Value) (M : ι → List As) (Φ : ι → Prop) (hd : o.dst = some d) (hg : o.guard = none) (hnd : ∀ c, o.op ≠ .defer c) (hN : Nat.blt d N = true)
    (hr : ∀ a w, Has N s a → St w0 O m w → ∃ i w', Φ i ∧ (execOp a.eval o).run P w = .ok (.value (V i)) w' ∧ St w0 O (M i) w')
    (k : ∀ i, Φ i → G ro P N D w0 O ops l ((d, V i) :: s) (M i) Q) : G ro P N D w0 O ops (o :: l) s m Q := fun a w hs hdf hm => by
  have hw : Region.wanted o (yielded ops a.tmps) = true := by simp [Region.wanted, hg]
  simp only [wpL, hw, if_true]
  obtain ⟨i, w', hi, hrun, hm'⟩ := hr a w hs hm
  refine ⟨fun _ _ => trivial, ?_⟩
  rw [Oper.semAt_eq _ _ _ hnd, hrun, Oper.uponIn_value, hd]
  exact k i hi _ _ (hs.put d (V i) hN) (by simpa [Act.put] using hdf) hm'

/-- .. one value. -/
theorem G_val {o : Oper} {d : Nat} (v : Value) (hd : o.dst = some d) (hg : o.guard = none) (hnd : ∀ c, o.op ≠ .defer c) (hN : Nat.blt d N = true)
    (hr : ∀ a w, Has N s a → St w0 O m w → (execOp a.eval o).run P w = .ok (.value v) w)
    (k : G ro P N D w0 O ops l ((d, v) :: s) m Q) : G ro P N D w0 O ops (o :: l) s m Q :=
  G_any (ι := Unit) (fun _ => v) (fun _ => m) (fun _ => True) hd hg hnd hN (fun a w hs hm => ⟨(), w, trivial, hr a w hs hm, hm⟩) (fun _ _ => k)

/-- An operation that yields nothing. -/
theorem G_unit {o : Oper} {m' : List As} (hd : o.dst = none) (hg : o.guard = none) (hnd : ∀ c, o.op ≠ .defer c)
    (hr : ∀ a w, Has N s a → St w0 O m w → ∃ w', (execOp a.eval o).run P w = .ok .skip w' ∧ St w0 O m' w')
    (k : G ro P N D w0 O ops l s m' Q) : G ro P N D w0 O ops (o :: l) s m Q := fun a w hs hdf hm => by
  have hw : Region.wanted o (yielded ops a.tmps) = true := by simp [Region.wanted, hg]
  simp only [wpL, hw, if_true]
  obtain ⟨w', hrun, hm'⟩ := hr a w hs hm
  refine ⟨fun _ _ => trivial, ?_⟩
  rw [Oper.semAt_eq _ _ _ hnd, hrun, Oper.uponIn_skip, hd]
  exact k _ _ hs hdf hm'

variable {d : Nat} {ty : TypeId} {pos : String} {af : Array Edge}

theorem G_move {x : Operand} {v : Value} (hx : ev s x = some v) (hN : Nat.blt d N = true) (k : G ro P N D w0 O ops l ((d, v) :: s) m Q) :
    G ro P N D w0 O ops (⟨some d, .move x, ty, pos, af, none⟩ :: l) s m Q :=
  G_val v rfl rfl (by simp) hN (fun a w hs hm => by simp [execOp, hs.ev hx]) k
theorem G_assign {x : Operand} {v : Value} (hx : ev s x = some v) (hN : Nat.blt d N = true) (k : G ro P N D w0 O ops l ((d, v) :: s) m Q) :
    G ro P N D w0 O ops (⟨some d, .assign x, ty, pos, af, none⟩ :: l) s m Q :=
  G_val v rfl rfl (by simp) hN (fun a w hs hm => by simp [execOp, hs.ev hx]) k
theorem G_pick_t {c x y : Operand} {v : Value} (hc : ev s c = some (.bool true)) (hx : ev s x = some v) (hN : Nat.blt d N = true) (k : G ro P N D w0 O ops l ((d, v) :: s) m Q) :
    G ro P N D w0 O ops (⟨some d, .pick c x y, ty, pos, af, none⟩ :: l) s m Q :=
  G_val v rfl rfl (by simp) hN (fun a w hs hm => by simp [execOp, hs.ev hx, hs.ev hc, asBool]) k
theorem G_pick_f {c x y : Operand} {v : Value} (hc : ev s c = some (.bool false)) (hx : ev s y = some v) (hN : Nat.blt d N = true) (k : G ro P N D w0 O ops l ((d, v) :: s) m Q) :
    G ro P N D w0 O ops (⟨some d, .pick c x y, ty, pos, af, none⟩ :: l) s m Q :=
  G_val v rfl rfl (by simp) hN (fun a w hs hm => by simp [execOp, hs.ev hx, hs.ev hc, asBool]) k
/-- which of the two stays open -/
theorem G_pick {c x y : Operand} {t : Bool} {v v' : Value} (hc : ev s c = some (.bool t)) (hx : ev s x = some v) (hy : ev s y = some v') (hN : Nat.blt d N = true) (k : G ro P N D w0 O ops l ((d, if t then v else v') :: s) m Q) :
    G ro P N D w0 O ops (⟨some d, .pick c x y, ty, pos, af, none⟩ :: l) s m Q :=
  G_val (if t then v else v') rfl rfl (by simp) hN (fun a w hs hm => by cases t <;> simp [execOp, hs.ev hx, hs.ev hy, hs.ev hc, asBool]) k

/-! guards -/
theorem G_guard_yes {o : Op} {dst : Option Nat} {j : Nat} {d' : Nat} {b : Bool} (hj : ((ops[j]?).bind (·.dst)) = some d') (hv : look s d' = some (.bool b)) (hnd : ∀ c, o ≠ .defer c)
    (k : G ro P N D w0 O ops (⟨dst, o, ty, pos, af, none⟩ :: l) s m Q) : G ro P N D w0 O ops (⟨dst, o, ty, pos, af, some (j, b)⟩ :: l) s m Q := fun a w hs hdf hm => by
  have h1 := hs.at_ d' _ hv
  have h2 : a.tmps[d']? = some (.bool b) := by
    rw [Array.getD_eq_getD_getElem?] at h1
    cases h : a.tmps[d']? with
    | none => rw [h] at h1; simp [undef] at h1
    | some u => rw [h] at h1; simpa using h1
  have hw : Region.wanted ⟨dst, o, ty, pos, af, some (j, b)⟩ (yielded ops a.tmps) = true := by simp [Region.wanted, yielded, hj, h2]
  have hw' : Region.wanted ⟨dst, o, ty, pos, af, none⟩ (yielded ops a.tmps) = true := rfl
  have := k a w hs hdf hm
  simp only [wpL, hw, hw', if_true] at this ⊢
  obtain ⟨_, h3⟩ := this
  refine ⟨fun _ _ => trivial, ?_⟩
  rw [Oper.semAt_eq _ _ _ hnd] at h3 ⊢
  have he : execOp a.eval ⟨dst, o, ty, pos, af, some (j, b)⟩ = execOp a.eval ⟨dst, o, ty, pos, af, none⟩ := rfl
  rw [he]
  exact h3
theorem G_guard_no {o : Op} {j : Nat} {d' : Nat} {b b' : Bool} (hj : ((ops[j]?).bind (·.dst)) = some d') (hv : look s d' = some (.bool b)) (hne : (b == b') = false) (hN : Nat.blt d N = true)
    (k : G ro P N D w0 O ops l ((d, undef) :: s) m Q) : G ro P N D w0 O ops (⟨some d, o, ty, pos, af, some (j, b')⟩ :: l) s m Q := fun a w hs hdf hm => by
  have h1 := hs.at_ d' _ hv
  have h2 : a.tmps[d']? = some (.bool b) := by
    rw [Array.getD_eq_getD_getElem?] at h1
    cases h : a.tmps[d']? with
    | none => rw [h] at h1; simp [undef] at h1
    | some u => rw [h] at h1; simpa using h1
  have hne' : ¬ b = b' := by simpa using hne
  have hw : Region.wanted ⟨some d, o, ty, pos, af, some (j, b')⟩ (yielded ops a.tmps) = false := by simp [Region.wanted, yielded, hj, h2, hne']
  simp only [wpL, hw, Bool.false_eq_true, if_false]
  exact k _ _ (hs.put d undef hN) (by simpa [Act.put] using hdf) hm

/-! ### Whole numbers -/
theorem G_bin {op : BinOp} {t t' : TypeId} {x y : Operand} {kx ky : IntKind} {a b : Int} (v : Value) (hx : ev s x = some (.int kx a)) (hy : ev s y = some (.int ky b)) (hN : Nat.blt d N = true)
    (hv : ∀ w, (binOp op t (.int kx a) (.int ky b)).run P w = .ok v w) (k : G ro P N D w0 O ops l ((d, v) :: s) m Q) :
    G ro P N D w0 O ops (⟨some d, .binOp op t x y t', ty, pos, af, none⟩ :: l) s m Q :=
  G_val v rfl rfl (by simp) hN (fun a' w hs hm => by
    simp only [execOp, hs.ev hx, hs.ev hy]
    have h0 : (eqGuard op t x y (.int kx a) (.int ky b)).run P w = .ok () w := by
      unfold eqGuard
      cases op <;> rfl
    simp only [Sem.run_bind, h0, Result.andThen, hv w, Sem.run_pure]) k

theorem G_add {t t' : TypeId} {x y : Operand} {a b r : Int} (hx : ev s x = some (I a)) (hy : ev s y = some (I b)) (hN : Nat.blt d N = true) (he : IntKind.i64.wrap (a + b) = r)
    (k : G ro P N D w0 O ops l ((d, I r) :: s) m Q) : G ro P N D w0 O ops (⟨some d, .binOp .add t x y t', ty, pos, af, none⟩ :: l) s m Q :=
  G_bin (I r) hx hy hN (fun w => by subst he; rfl) k
theorem G_sub {t t' : TypeId} {x y : Operand} {a b r : Int} (hx : ev s x = some (I a)) (hy : ev s y = some (I b)) (hN : Nat.blt d N = true) (he : IntKind.i64.wrap (a - b) = r)
    (k : G ro P N D w0 O ops l ((d, I r) :: s) m Q) : G ro P N D w0 O ops (⟨some d, .binOp .sub t x y t', ty, pos, af, none⟩ :: l) s m Q :=
  G_bin (I r) hx hy hN (fun w => by subst he; rfl) k
theorem G_mul {t t' : TypeId} {x y : Operand} {a b r : Int} (hx : ev s x = some (I a)) (hy : ev s y = some (I b)) (hN : Nat.blt d N = true) (he : IntKind.i64.wrap (a * b) = r)
    (k : G ro P N D w0 O ops l ((d, I r) :: s) m Q) : G ro P N D w0 O ops (⟨some d, .binOp .mul t x y t', ty, pos, af, none⟩ :: l) s m Q :=
  G_bin (I r) hx hy hN (fun w => by subst he; rfl) k
theorem G_lss {t t' : TypeId} {x y : Operand} {kk : IntKind} {a b : Int} (hx : ev s x = some (.int kk a)) (hy : ev s y = some (.int kk b)) (hN : Nat.blt d N = true)
    (k : G ro P N D w0 O ops l ((d, .bool (decide (a < b))) :: s) m Q) : G ro P N D w0 O ops (⟨some d, .binOp .lss t x y t', ty, pos, af, none⟩ :: l) s m Q :=
  G_bin _ hx hy hN (fun w => by cases kk <;> rfl) k
theorem G_leq {t t' : TypeId} {x y : Operand} {kk : IntKind} {a b : Int} (hx : ev s x = some (.int kk a)) (hy : ev s y = some (.int kk b)) (hN : Nat.blt d N = true)
    (k : G ro P N D w0 O ops l ((d, .bool (decide (a ≤ b))) :: s) m Q) : G ro P N D w0 O ops (⟨some d, .binOp .leq t x y t', ty, pos, af, none⟩ :: l) s m Q :=
  G_bin _ hx hy hN (fun w => by cases kk <;> rfl) k
theorem G_gtr {t t' : TypeId} {x y : Operand} {kk : IntKind} {a b : Int} (hx : ev s x = some (.int kk a)) (hy : ev s y = some (.int kk b)) (hN : Nat.blt d N = true)
    (k : G ro P N D w0 O ops l ((d, .bool (decide (b < a))) :: s) m Q) : G ro P N D w0 O ops (⟨some d, .binOp .gtr t x y t', ty, pos, af, none⟩ :: l) s m Q :=
  G_bin _ hx hy hN (fun w => by cases kk <;> rfl) k
theorem G_geq {t t' : TypeId} {x y : Operand} {kk : IntKind} {a b : Int} (hx : ev s x = some (.int kk a)) (hy : ev s y = some (.int kk b)) (hN : Nat.blt d N = true)
    (k : G ro P N D w0 O ops l ((d, .bool (decide (b ≤ a))) :: s) m Q) : G ro P N D w0 O ops (⟨some d, .binOp .geq t x y t', ty, pos, af, none⟩ :: l) s m Q :=
  G_bin _ hx hy hN (fun w => by cases kk <;> rfl) k
theorem G_eql {t t' : TypeId} {x y : Operand} {kk : IntKind} {a b : Int} (hx : ev s x = some (.int kk a)) (hy : ev s y = some (.int kk b)) (hN : Nat.blt d N = true)
    (k : G ro P N D w0 O ops l ((d, .bool (decide (a = b))) :: s) m Q) : G ro P N D w0 O ops (⟨some d, .binOp .eql t x y t', ty, pos, af, none⟩ :: l) s m Q :=
  G_bin _ hx hy hN (fun w => by cases kk <;> rfl) k
theorem G_neq {t t' : TypeId} {x y : Operand} {kk : IntKind} {a b : Int} (hx : ev s x = some (.int kk a)) (hy : ev s y = some (.int kk b)) (hN : Nat.blt d N = true)
    (k : G ro P N D w0 O ops l ((d, .bool (decide (¬ a = b))) :: s) m Q) : G ro P N D w0 O ops (⟨some d, .binOp .neq t x y t', ty, pos, af, none⟩ :: l) s m Q :=
  G_bin _ hx hy hN (fun w => by
    have : (a != b) = decide (¬ a = b) := by simp [bne, BEq.beq]
    rw [← this]
    cases kk <;> rfl) k

/-! 64 bits without a sign -/
theorem G_xor64 {t t' : TypeId} {x y : Operand} {a b : Int} {p q : BitVec 64} (hx : ev s x = some (.int .u64 a)) (hy : ev s y = some (.int .u64 b)) [ha : IsB a p] [hb : IsB b q] (hN : Nat.blt d N = true)
    (k : G ro P N D w0 O ops l ((d, U (p ^^^ q)) :: s) m Q) : G ro P N D w0 O ops (⟨some d, .binOp .xor t x y t', ty, pos, af, none⟩ :: l) s m Q :=
  G_bin _ hx hy hN (fun w => by
    simp only [binOp, ne_eq, not_true, if_false, Op.intBits, Sem.run_pure, IntKind.bits]
    rw [ha.eq, hb.eq, wrap_u64_nat]; rfl) k
theorem G_or64 {t t' : TypeId} {x y : Operand} {a b : Int} {p q : BitVec 64} (hx : ev s x = some (.int .u64 a)) (hy : ev s y = some (.int .u64 b)) [ha : IsB a p] [hb : IsB b q] (hN : Nat.blt d N = true)
    (k : G ro P N D w0 O ops l ((d, U (p ||| q)) :: s) m Q) : G ro P N D w0 O ops (⟨some d, .binOp .or t x y t', ty, pos, af, none⟩ :: l) s m Q :=
  G_bin _ hx hy hN (fun w => by
    simp only [binOp, ne_eq, not_true, if_false, Op.intBits, Sem.run_pure, IntKind.bits]
    rw [ha.eq, hb.eq, wrap_u64_nat]; rfl) k
theorem G_and64 {t t' : TypeId} {x y : Operand} {a b : Int} {p q : BitVec 64} (hx : ev s x = some (.int .u64 a)) (hy : ev s y = some (.int .u64 b)) [ha : IsB a p] [hb : IsB b q] (hN : Nat.blt d N = true)
    (k : G ro P N D w0 O ops l ((d, U (p &&& q)) :: s) m Q) : G ro P N D w0 O ops (⟨some d, .binOp .and t x y t', ty, pos, af, none⟩ :: l) s m Q :=
  G_bin _ hx hy hN (fun w => by
    simp only [binOp, ne_eq, not_true, if_false, Op.intBits, Sem.run_pure, IntKind.bits]
    rw [ha.eq, hb.eq, wrap_u64_nat]; rfl) k
theorem G_mul64 {t t' : TypeId} {x y : Operand} {a b : Int} {p q : BitVec 64} (hx : ev s x = some (.int .u64 a)) (hy : ev s y = some (.int .u64 b)) [ha : IsB a p] [hb : IsB b q] (hN : Nat.blt d N = true)
    (k : G ro P N D w0 O ops l ((d, U (p * q)) :: s) m Q) : G ro P N D w0 O ops (⟨some d, .binOp .mul t x y t', ty, pos, af, none⟩ :: l) s m Q :=
  G_bin _ hx hy hN (fun w => by
    simp only [binOp, ne_eq, not_true, if_false, Op.intArith, Sem.run_pure]
    rw [wrap_u64, BitVec.ofInt_mul, ha.eq, hb.eq]) k
theorem G_add64 {t t' : TypeId} {x y : Operand} {a b : Int} {p q : BitVec 64} (hx : ev s x = some (.int .u64 a)) (hy : ev s y = some (.int .u64 b)) [ha : IsB a p] [hb : IsB b q] (hN : Nat.blt d N = true)
    (k : G ro P N D w0 O ops l ((d, U (p + q)) :: s) m Q) : G ro P N D w0 O ops (⟨some d, .binOp .add t x y t', ty, pos, af, none⟩ :: l) s m Q :=
  G_bin _ hx hy hN (fun w => by
    simp only [binOp, ne_eq, not_true, if_false, Op.intArith, Sem.run_pure]
    rw [wrap_u64, BitVec.ofInt_add, ha.eq, hb.eq]) k
theorem G_sub64 {t t' : TypeId} {x y : Operand} {a b : Int} {p q : BitVec 64} (hx : ev s x = some (.int .u64 a)) (hy : ev s y = some (.int .u64 b)) [ha : IsB a p] [hb : IsB b q] (hN : Nat.blt d N = true)
    (k : G ro P N D w0 O ops l ((d, U (p - q)) :: s) m Q) : G ro P N D w0 O ops (⟨some d, .binOp .sub t x y t', ty, pos, af, none⟩ :: l) s m Q :=
  G_bin _ hx hy hN (fun w => by
    simp only [binOp, ne_eq, not_true, if_false, Op.intArith, Sem.run_pure]
    rw [wrap_u64, Int.sub_eq_add_neg, BitVec.ofInt_add, BitVec.ofInt_neg, ha.eq, hb.eq, ← BitVec.sub_eq_add_neg]) k
/-- a shift by a count that is not below zero -/
theorem G_shr64 {t t' : TypeId} {x y : Operand} {a b : Int} {p : BitVec 64} {yk : IntKind} (hx : ev s x = some (.int .u64 a)) (hy : ev s y = some (.int yk b)) (hb0 : a = (p.toNat : Int)) {j : Nat} [hb : IsN b j] (hN : Nat.blt d N = true)
    (k : G ro P N D w0 O ops l ((d, U (p >>> j)) :: s) m Q) : G ro P N D w0 O ops (⟨some d, .binOp .shr t x y t', ty, pos, af, none⟩ :: l) s m Q :=
  G_bin _ hx hy hN (fun w => by
    subst hb0
    have hb' := hb.eq
    subst hb'
    have h0 : ¬ (j : Int) < 0 := by omega
    simp only [binOp, Op.shift, if_neg h0, Sem.run_pure]
    exact congrArg (fun n => Result.ok (Value.int .u64 n) w) (shr_val p j)) k
theorem G_shl64 {t t' : TypeId} {x y : Operand} {a b : Int} {p : BitVec 64} {yk : IntKind} (hx : ev s x = some (.int .u64 a)) (hy : ev s y = some (.int yk b)) (hb0 : a = (p.toNat : Int)) {j : Nat} [hb : IsN b j] (hN : Nat.blt d N = true)
    (k : G ro P N D w0 O ops l ((d, U (p <<< j)) :: s) m Q) : G ro P N D w0 O ops (⟨some d, .binOp .shl t x y t', ty, pos, af, none⟩ :: l) s m Q :=
  G_bin _ hx hy hN (fun w => by
    subst hb0
    have hb' := hb.eq
    subst hb'
    have h0 : ¬ (j : Int) < 0 := by omega
    simp only [binOp, Op.shift, if_neg h0, Sem.run_pure]
    exact congrArg (fun n => Result.ok (Value.int .u64 n) w) (shl_val p j)) k

/-! conversions between whole numbers -/
theorem G_conv {t t' : TypeId} {x : Operand} {kx ky : IntKind} {a : Int} {ut : TypeDesc} (v : Int) [h1 : Und P t ut] [h2 : Und P t' (.int ky)] (hx : ev s x = some (.int kx a)) (hN : Nat.blt d N = true) (hv : ky.wrap a = v)
    (k : G ro P N D w0 O ops l ((d, .int ky v) :: s) m Q) : G ro P N D w0 O ops (⟨some d, .convert t t' x, ty, pos, af, none⟩ :: l) s m Q :=
  G_val _ rfl rfl (by simp) hN (fun a w hs hm => by
    subst hv
    simp [execOp, hs.ev hx, convert, underlying, h1.eq, h2.eq, Conv.intToInt]) k
theorem G_to_u64 {t t' : TypeId} {x : Operand} {kx : IntKind} {a : Int} {p : BitVec 64} {ut : TypeDesc} [h1 : Und P t ut] [h2 : Und P t' (.int .u64)] (hx : ev s x = some (.int kx a)) [ha : IsB a p] (hN : Nat.blt d N = true)
    (k : G ro P N D w0 O ops l ((d, U p) :: s) m Q) : G ro P N D w0 O ops (⟨some d, .convert t t' x, ty, pos, af, none⟩ :: l) s m Q :=
  G_conv _ hx hN (by rw [wrap_u64, ha.eq]) k
theorem G_u64_int {t t' : TypeId} {x : Operand} {p : BitVec 64} {ut : TypeDesc} [h1 : Und P t ut] [h2 : Und P t' (.int .i64)] (hx : ev s x = some (U p)) (hN : Nat.blt d N = true)
    (k : G ro P N D w0 O ops l ((d, I p.toInt) :: s) m Q) : G ro P N D w0 O ops (⟨some d, .convert t t' x, ty, pos, af, none⟩ :: l) s m Q :=
  G_conv _ hx hN (by
    rw [IntKind.wrap_i64, BitVec.toInt_eq_toNat_cond]
    have := p.isLt
    split <;> omega) k

theorem G_not {t : TypeId} {x : Operand} {b : Bool} (hx : ev s x = some (.bool b)) (hN : Nat.blt d N = true) (k : G ro P N D w0 O ops l ((d, .bool (!b)) :: s) m Q) :
    G ro P N D w0 O ops (⟨some d, .unOp .not t x, ty, pos, af, none⟩ :: l) s m Q :=
  G_val _ rfl rfl (by simp) hN (fun a w hs hm => by simp [execOp, hs.ev hx, Op.unary]) k

end
end Go.Proofs.Ytjdbdjmfimbbkaa
