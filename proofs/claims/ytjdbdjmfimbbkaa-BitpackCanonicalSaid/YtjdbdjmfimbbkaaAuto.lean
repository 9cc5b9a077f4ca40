/- What an operation gives, told by its values alone: classes, and one rule for each kind of operation. -/
import Derived.Test.YtjdbdjmfimbbkaaClip
set_option linter.unusedVariables false
set_option linter.unusedSimpArgs false
namespace Go.Proofs.Ytjdbdjmfimbbkaa
open Go.RowKit
universe u

/-! ### Truth -/
class TrueV (v : Value) : Prop where
  eq : v = .bool true
instance trueV_ : TrueV (.bool true) := ⟨rfl⟩
class FalseV (v : Value) : Prop where
  eq : v = .bool false
instance falseV_ : FalseV (.bool false) := ⟨rfl⟩
class Fct (p : Prop) : Prop where
  out : p
/-- p holds, p fails: what stands fast without a split -/
class Yes (p : Prop) : Prop where
  yes : p
class No (p : Prop) : Prop where
  no : ¬ p
instance yes_refl {α : Sort u} (a : α) : Yes (a = a) := ⟨rfl⟩
instance yes_true : Yes True := ⟨trivial⟩
instance no_false : No False := ⟨id⟩
instance yes_and {p q : Prop} [h : Yes p] [h' : Yes q] : Yes (p ∧ q) := ⟨⟨h.yes, h'.yes⟩⟩
instance no_andL {p q : Prop} [h : No p] : No (p ∧ q) := ⟨fun h2 => h.no h2.1⟩
instance no_andR {p q : Prop} [h : No q] : No (p ∧ q) := ⟨fun h2 => h.no h2.2⟩
instance yes_not {p : Prop} [h : No p] : Yes (¬ p) := ⟨h.no⟩
instance no_not {p : Prop} [h : Yes p] : No (¬ p) := ⟨fun h2 => h2 h.yes⟩
instance (priority := low) yes_fct {p : Prop} [h : Fct p] : Yes p := ⟨h.out⟩
instance (priority := low) no_fct {p : Prop} [h : Fct (¬ p)] : No p := ⟨h.out⟩
instance trueV_yes {p : Prop} [i : Decidable p] [h : Yes p] : TrueV (.bool (decide p)) := ⟨by rw [decide_eq_true h.yes]⟩
instance falseV_no {p : Prop} [i : Decidable p] [h : No p] : FalseV (.bool (decide p)) := ⟨by rw [decide_eq_false h.no]⟩
/-- v is the truth of p -/
class DecV (v : Value) (p : outParam Prop) : Prop where
  ok : ∃ i : Decidable p, v = .bool (@decide p i)
instance decV_dec (p : Prop) [i : Decidable p] : DecV (.bool (decide p)) p := ⟨i, rfl⟩
instance (priority := low) decV_any (b : Bool) : DecV (.bool b) (b = true) := ⟨inferInstance, by simp⟩

/-- a number's natural number -/
class NatR (i : Int) (j : outParam Nat) (side : outParam Prop) : Prop where
  eq : side → i = (j : Int)
instance (priority := high) natR_cast (j : Nat) : NatR (j : Int) j True := ⟨fun _ => rfl⟩
instance (priority := high) natR_lit (n : Nat) : NatR (no_index (OfNat.ofNat n)) (OfNat.ofNat n) True := ⟨fun _ => rfl⟩
instance natR_add (a b : Int) (i j : Nat) (p q : Prop) [ha : NatR a i p] [hb : NatR b j q] : NatR (a + b) (i + j) (p ∧ q) := ⟨fun h => by rw [ha.eq h.1, hb.eq h.2]; simp⟩
instance natR_mul (a b : Int) (i j : Nat) (p q : Prop) [ha : NatR a i p] [hb : NatR b j q] : NatR (a * b) (i * j) (p ∧ q) := ⟨fun h => by rw [ha.eq h.1, hb.eq h.2]; simp⟩
instance natR_div (a b : Int) (i j : Nat) (p q : Prop) [ha : NatR a i p] [hb : NatR b j q] : NatR (a / b) (i / j) (p ∧ q) := ⟨fun h => by rw [ha.eq h.1, hb.eq h.2]; simp⟩
instance natR_mod (a b : Int) (i j : Nat) (p q : Prop) [ha : NatR a i p] [hb : NatR b j q] : NatR (a % b) (i % j) (p ∧ q) := ⟨fun h => by rw [ha.eq h.1, hb.eq h.2]; simp⟩
instance natR_sub (a b : Int) (i j : Nat) (p q : Prop) [ha : NatR a i p] [hb : NatR b j q] : NatR (a - b) (i - j) ((p ∧ q) ∧ j ≤ i) := ⟨fun h => by rw [ha.eq h.1.1, hb.eq h.1.2, Int.ofNat_sub h.2]⟩
instance (priority := low) natR_any (i : Int) : NatR i i.toNat (0 ≤ i) := ⟨fun h => (Int.toNat_of_nonneg h).symm⟩

/-! ### Operations of two values -/
class BinR (P : Program) (op : BinOp) (t : TypeId) (u v : Value) (side : outParam Prop) (r : outParam Value) : Prop where
  grd : ∀ x y w, (eqGuard op t x y u v).run P w = .ok () w
  ok : side → ∀ w, (binOp op t u v).run P w = .ok r w

theorem grd_int {P : Program} {op : BinOp} {t : TypeId} {k k' : IntKind} {a b : Int} : ∀ x y w, (eqGuard op t x y (.int k a) (.int k' b)).run P w = .ok () w := fun x y w => by
  unfold eqGuard; cases op <;> rfl

section
variable {P : Program} {t : TypeId}
instance binR_add (a b : Int) : BinR P .add t (I a) (I b) (-9223372036854775808 ≤ a + b ∧ a + b ≤ 9223372036854775807) (I (a + b)) := ⟨grd_int, fun h w => by
  show Result.ok (Value.int .i64 (IntKind.i64.wrap (a + b))) w = _; rw [IntWalk.i64_in _ h]⟩
instance binR_sub (a b : Int) : BinR P .sub t (I a) (I b) (-9223372036854775808 ≤ a - b ∧ a - b ≤ 9223372036854775807) (I (a - b)) := ⟨grd_int, fun h w => by
  show Result.ok (Value.int .i64 (IntKind.i64.wrap (a - b))) w = _; rw [IntWalk.i64_in _ h]⟩
instance binR_mul (a b : Int) : BinR P .mul t (I a) (I b) (-9223372036854775808 ≤ a * b ∧ a * b ≤ 9223372036854775807) (I (a * b)) := ⟨grd_int, fun h w => by
  show Result.ok (Value.int .i64 (IntKind.i64.wrap (a * b))) w = _; rw [IntWalk.i64_in _ h]⟩
instance binR_quo (a b : Int) : BinR P .quo t (I a) (I b) (0 ≤ a ∧ a ≤ 9223372036854775807 ∧ 1 ≤ b) (I (a / b)) := ⟨grd_int, fun h w => by
  have h0 : ¬ b = 0 := by omega
  show (Op.intDiv .quo .i64 a b).run P w = _
  simp only [Op.intDiv, h0, if_false, Sem.run_pure]
  rw [IntWalk.i64_quo a b h]⟩
instance binR_rem (a b : Int) : BinR P .rem t (I a) (I b) (0 ≤ a ∧ 1 ≤ b) (I (a % b)) := ⟨grd_int, fun h w => by
  have h0 : ¬ b = 0 := by omega
  show (Op.intDiv .rem .i64 a b).run P w = _
  simp only [Op.intDiv, h0, if_false, Sem.run_pure]
  rw [IntWalk.rem_in a b h.1]⟩
instance binR_lss (k : IntKind) (a b : Int) : BinR P .lss t (.int k a) (.int k b) True (.bool (decide (a < b))) := ⟨grd_int, fun _ w => by cases k <;> rfl⟩
instance binR_leq (k : IntKind) (a b : Int) : BinR P .leq t (.int k a) (.int k b) True (.bool (decide (a ≤ b))) := ⟨grd_int, fun _ w => by cases k <;> rfl⟩
instance binR_gtr (k : IntKind) (a b : Int) : BinR P .gtr t (.int k a) (.int k b) True (.bool (decide (b < a))) := ⟨grd_int, fun _ w => by cases k <;> rfl⟩
instance binR_geq (k : IntKind) (a b : Int) : BinR P .geq t (.int k a) (.int k b) True (.bool (decide (b ≤ a))) := ⟨grd_int, fun _ w => by cases k <;> rfl⟩
instance binR_eql (k : IntKind) (a b : Int) : BinR P .eql t (.int k a) (.int k b) True (.bool (decide (a = b))) := ⟨grd_int, fun _ w => by cases k <;> rfl⟩
instance binR_neq (k : IntKind) (a b : Int) : BinR P .neq t (.int k a) (.int k b) True (.bool (decide (¬ a = b))) := ⟨grd_int, fun _ w => by
  have : (a != b) = decide (¬ a = b) := by simp [bne, BEq.beq]
  rw [← this]; cases k <;> rfl⟩

/-! 64 bits without a sign -/
instance binR_xor64 (a b : Int) (p q : BitVec 64) [ha : IsB a p] [hb : IsB b q] : BinR P .xor t (.int .u64 a) (.int .u64 b) True (U (p ^^^ q)) := ⟨grd_int, fun _ w => by
  simp only [binOp, ne_eq, not_true, if_false, Op.intBits, Sem.run_pure, IntKind.bits]; rw [ha.eq, hb.eq, wrap_u64_nat]; rfl⟩
instance binR_or64 (a b : Int) (p q : BitVec 64) [ha : IsB a p] [hb : IsB b q] : BinR P .or t (.int .u64 a) (.int .u64 b) True (U (p ||| q)) := ⟨grd_int, fun _ w => by
  simp only [binOp, ne_eq, not_true, if_false, Op.intBits, Sem.run_pure, IntKind.bits]; rw [ha.eq, hb.eq, wrap_u64_nat]; rfl⟩
instance binR_and64 (a b : Int) (p q : BitVec 64) [ha : IsB a p] [hb : IsB b q] : BinR P .and t (.int .u64 a) (.int .u64 b) True (U (p &&& q)) := ⟨grd_int, fun _ w => by
  simp only [binOp, ne_eq, not_true, if_false, Op.intBits, Sem.run_pure, IntKind.bits]; rw [ha.eq, hb.eq, wrap_u64_nat]; rfl⟩
instance binR_add64 (a b : Int) (p q : BitVec 64) [ha : IsB a p] [hb : IsB b q] : BinR P .add t (.int .u64 a) (.int .u64 b) True (U (p + q)) := ⟨grd_int, fun _ w => by
  simp only [binOp, ne_eq, not_true, if_false, Op.intArith, Sem.run_pure]; rw [wrap_u64, BitVec.ofInt_add, ha.eq, hb.eq]⟩
instance binR_sub64 (a b : Int) (p q : BitVec 64) [ha : IsB a p] [hb : IsB b q] : BinR P .sub t (.int .u64 a) (.int .u64 b) True (U (p - q)) := ⟨grd_int, fun _ w => by
  simp only [binOp, ne_eq, not_true, if_false, Op.intArith, Sem.run_pure]; rw [wrap_u64, Int.sub_eq_add_neg, BitVec.ofInt_add, BitVec.ofInt_neg, ha.eq, hb.eq, ← BitVec.sub_eq_add_neg]⟩
instance binR_mul64 (a b : Int) (p q : BitVec 64) [ha : IsB a p] [hb : IsB b q] : BinR P .mul t (.int .u64 a) (.int .u64 b) True (U (p * q)) := ⟨grd_int, fun _ w => by
  simp only [binOp, ne_eq, not_true, if_false, Op.intArith, Sem.run_pure]; rw [wrap_u64, BitVec.ofInt_mul, ha.eq, hb.eq]⟩
instance binR_rem64 (a b : Int) (p q : BitVec 64) [ha : IsB a p] [hb : IsB b q] : BinR P .rem t (.int .u64 a) (.int .u64 b) (a = (p.toNat : Int) ∧ b = (q.toNat : Int) ∧ ¬ q.toNat = 0) (U (p % q)) := ⟨grd_int, fun ⟨ea, eb, hq⟩ w => by
  rw [ea, eb]
  have h0 : ¬ (q.toNat : Int) = 0 := by omega
  simp only [binOp, ne_eq, not_true, if_false, Op.intDiv, h0, Sem.run_pure]
  have e : ((p.toNat : Int)).tmod (q.toNat : Int) = ((p % q).toNat : Int) := by rw [BitVec.toNat_umod]; rfl
  rw [e]⟩
instance binR_quo64 (a b : Int) (p q : BitVec 64) [ha : IsB a p] [hb : IsB b q] : BinR P .quo t (.int .u64 a) (.int .u64 b) (a = (p.toNat : Int) ∧ b = (q.toNat : Int) ∧ ¬ q.toNat = 0) (U (p / q)) := ⟨grd_int, fun ⟨ea, eb, hq⟩ w => by
  rw [ea, eb]
  have h0 : ¬ (q.toNat : Int) = 0 := by omega
  simp only [binOp, ne_eq, not_true, if_false, Op.intDiv, h0, Sem.run_pure]
  have e : ((p.toNat : Int)).tdiv (q.toNat : Int) = ((p / q).toNat : Int) := by rw [BitVec.toNat_udiv]; rfl
  rw [e, wrap_u64_nat]⟩
instance binR_shr64 (p : BitVec 64) (b : Int) (yk : IntKind) (j : Nat) (sd : Prop) [hb : NatR b j sd] : BinR P .shr t (.int .u64 (p.toNat : Int)) (.int yk b) sd (U (p >>> j)) := ⟨grd_int, fun h w => by
  rw [hb.eq h]
  have h0 : ¬ (j : Int) < 0 := by omega
  simp only [binOp, Op.shift, if_neg h0, Sem.run_pure]
  exact congrArg (fun n => Result.ok (Value.int .u64 n) w) (shr_val p j)⟩
instance binR_shl64 (a : Int) (p : BitVec 64) [ha : IsB a p] (b : Int) (yk : IntKind) (j : Nat) (sd : Prop) [hb : NatR b j sd] : BinR P .shl t (.int .u64 a) (.int yk b) (sd ∧ a = (p.toNat : Int)) (U (p <<< j)) := ⟨grd_int, fun h w => by
  rw [hb.eq h.1, h.2]
  have h0 : ¬ (j : Int) < 0 := by omega
  simp only [binOp, Op.shift, if_neg h0, Sem.run_pure]
  exact congrArg (fun n => Result.ok (Value.int .u64 n) w) (shl_val p j)⟩

/-! bytes -/
instance binR_xor8 (a b : Int) (p q : BitVec 8) [ha : IsB8 a p] [hb : IsB8 b q] : BinR P .xor t (.int .u8 a) (.int .u8 b) True (B8 (p ^^^ q)) := ⟨grd_int, fun _ w => by
  simp only [binOp, ne_eq, not_true, if_false, Op.intBits, Sem.run_pure, IntKind.bits]; rw [ha.eq, hb.eq, wrap_u8_nat]; rfl⟩
instance binR_or8 (a b : Int) (p q : BitVec 8) [ha : IsB8 a p] [hb : IsB8 b q] : BinR P .or t (.int .u8 a) (.int .u8 b) True (B8 (p ||| q)) := ⟨grd_int, fun _ w => by
  simp only [binOp, ne_eq, not_true, if_false, Op.intBits, Sem.run_pure, IntKind.bits]; rw [ha.eq, hb.eq, wrap_u8_nat]; rfl⟩
instance binR_and8 (a b : Int) (p q : BitVec 8) [ha : IsB8 a p] [hb : IsB8 b q] : BinR P .and t (.int .u8 a) (.int .u8 b) True (B8 (p &&& q)) := ⟨grd_int, fun _ w => by
  simp only [binOp, ne_eq, not_true, if_false, Op.intBits, Sem.run_pure, IntKind.bits]; rw [ha.eq, hb.eq, wrap_u8_nat]; rfl⟩
instance binR_add8 (a b : Int) (p q : BitVec 8) [ha : IsB8 a p] [hb : IsB8 b q] : BinR P .add t (.int .u8 a) (.int .u8 b) True (B8 (p + q)) := ⟨grd_int, fun _ w => by
  simp only [binOp, ne_eq, not_true, if_false, Op.intArith, Sem.run_pure]; rw [wrap_u8, BitVec.ofInt_add, ha.eq, hb.eq]⟩
instance binR_sub8 (a b : Int) (p q : BitVec 8) [ha : IsB8 a p] [hb : IsB8 b q] : BinR P .sub t (.int .u8 a) (.int .u8 b) True (B8 (p - q)) := ⟨grd_int, fun _ w => by
  simp only [binOp, ne_eq, not_true, if_false, Op.intArith, Sem.run_pure]; rw [wrap_u8, Int.sub_eq_add_neg, BitVec.ofInt_add, BitVec.ofInt_neg, ha.eq, hb.eq, ← BitVec.sub_eq_add_neg]⟩
instance binR_rem8 (p : BitVec 8) (b : Int) : BinR P .rem t (.int .u8 (p.toNat : Int)) (.int .u8 b) (1 ≤ b) (.int .u8 ((p.toNat : Int) % b)) := ⟨grd_int, fun h w => by
  have h0 : ¬ b = 0 := by omega
  show (Op.intDiv .rem .u8 _ b).run P w = _
  simp only [Op.intDiv, h0, if_false, Sem.run_pure]
  rw [Int.tmod_eq_emod_of_nonneg (by omega)]⟩
instance binR_shr8 (p : BitVec 8) (b : Int) (yk : IntKind) (j : Nat) (sd : Prop) [hb : NatR b j sd] : BinR P .shr t (.int .u8 (p.toNat : Int)) (.int yk b) sd (B8 (p >>> j)) := ⟨grd_int, fun h w => by
  rw [hb.eq h]
  have h0 : ¬ (j : Int) < 0 := by omega
  simp only [binOp, Op.shift, if_neg h0, Sem.run_pure]
  exact congrArg (fun n => Result.ok (Value.int .u8 n) w) (shr_val8 p j)⟩
instance binR_shl8 (a : Int) (p : BitVec 8) [ha : IsB8 a p] (b : Int) (yk : IntKind) (j : Nat) (sd : Prop) [hb : NatR b j sd] : BinR P .shl t (.int .u8 a) (.int yk b) (sd ∧ a = (p.toNat : Int)) (B8 (p <<< j)) := ⟨grd_int, fun h w => by
  rw [hb.eq h.1, h.2]
  have h0 : ¬ (j : Int) < 0 := by omega
  simp only [binOp, Op.shift, if_neg h0, Sem.run_pure]
  exact congrArg (fun n => Result.ok (Value.int .u8 n) w) (shl_val8 p j)⟩
/-! other kinds without a sign: remainders -/
instance binR_rem16 (a b : Int) : BinR P .rem t (.int .u16 a) (.int .u16 b) (0 ≤ a ∧ 1 ≤ b) (.int .u16 (a % b)) := ⟨grd_int, fun h w => by
  have h0 : ¬ b = 0 := by omega
  show (Op.intDiv .rem .u16 _ b).run P w = _
  simp only [Op.intDiv, h0, if_false, Sem.run_pure]
  rw [Int.tmod_eq_emod_of_nonneg (by omega)]⟩

/-! bools -/
instance binR_eqlB (a b : Bool) [ht : Und P t .bool] : BinR P .eql t (.bool a) (.bool b) True (.bool (decide (a = b))) := ⟨fun x y w => by simp [eqGuard], fun _ w => by
  have : (a == b) = decide (a = b) := by cases a <;> cases b <;> rfl
  simp [binOp, Op.equal, Op.maxDepth, run_equalIn_bool' w 9999 t a b ht.eq, this]⟩
instance binR_neqB (a b : Bool) [ht : Und P t .bool] : BinR P .neq t (.bool a) (.bool b) True (.bool (decide (¬ a = b))) := ⟨fun x y w => by simp [eqGuard], fun _ w => by
  have : (!(a == b)) = decide (¬ a = b) := by cases a <;> cases b <;> rfl
  simp [binOp, Op.equal, Op.maxDepth, run_equalIn_bool' w 9999 t a b ht.eq, this]⟩
end

/-! ### One value -/
class NotR (v : Value) (r : outParam Value) : Prop where
  ok : ∃ b, v = .bool b ∧ r = .bool (!b)
instance (priority := high) notR_true : NotR (.bool true) (.bool false) := ⟨_, rfl, rfl⟩
instance (priority := high) notR_false : NotR (.bool false) (.bool true) := ⟨_, rfl, rfl⟩
instance notR_dec (p : Prop) [Decidable p] : NotR (.bool (decide p)) (.bool (decide (¬ p))) := ⟨_, rfl, by simp⟩
instance (priority := low) notR_any (b : Bool) : NotR (.bool b) (.bool (decide (¬ b = true))) := ⟨_, rfl, by cases b <;> rfl⟩

/-- a type that is Go's uint -/
class UintT (t : TypeId) : Prop where
  ok : True
class ConvR (P : Program) (t t' : TypeId) (u : Value) (side : outParam Prop) (r : outParam Value) : Prop where
  ok : side → ∀ w, (convert t t' u).run P w = .ok r w

theorem conv_int {P : Program} {t t' : TypeId} {ut : TypeDesc} {kx ky : IntKind} {a v : Int} [h1 : Und P t ut] [h2 : Und P t' (.int ky)] (hv : ky.wrap a = v) (w : World) : (convert t t' (.int kx a)).run P w = .ok (.int ky v) w := by
  subst hv; simp [convert, underlying, h1.eq, h2.eq, Conv.intToInt]

section
variable {P : Program} {t t' : TypeId} {ut : TypeDesc}
instance convR_u64_int (p : BitVec 64) [h1 : Und P t ut] [h2 : Und P t' (.int .i64)] : ConvR P t t' (.int .u64 (p.toNat : Int)) True (I p.toInt) := ⟨fun _ w => conv_int (by
  rw [IntKind.wrap_i64, BitVec.toInt_eq_toNat_cond]
  have := p.isLt
  split <;> omega) w⟩
instance convR_int_int (a : Int) [h1 : Und P t ut] [h2 : Und P t' (.int .i64)] : ConvR P t t' (.int .i64 a) (-9223372036854775808 ≤ a ∧ a ≤ 9223372036854775807) (I a) := ⟨fun h w => conv_int (IntWalk.i64_in _ h) w⟩
instance (priority := low) convR_to_int (kx : IntKind) (a : Int) [h1 : Und P t ut] [h2 : Und P t' (.int .i64)] : ConvR P t t' (.int kx a) (-9223372036854775808 ≤ a ∧ a ≤ 9223372036854775807) (I a) := ⟨fun h w => conv_int (IntWalk.i64_in _ h) w⟩
instance convR_to_u64 (kx : IntKind) (a : Int) (p : BitVec 64) [h1 : Und P t ut] [h2 : Und P t' (.int .u64)] [ha : IsB a p] : ConvR P t t' (.int kx a) True (U p) := ⟨fun _ w => conv_int (by rw [wrap_u64, ha.eq]) w⟩
instance convR_u8_u64 (p : BitVec 8) [h1 : Und P t ut] [h2 : Und P t' (.int .u64)] : ConvR P t t' (.int .u8 (p.toNat : Int)) True (U (p.setWidth 64)) := ⟨fun _ w => conv_int (by
  rw [wrap_u64]; congr 1; simp) w⟩
instance (priority := high) convR_uint (kx : IntKind) (a : Int) [h1 : Und P t ut] [h2 : Und P t' (.int .u64)] [UintT t'] : ConvR P t t' (.int kx a) (0 ≤ a ∧ a ≤ 18446744073709551615) (.int .u64 a) := ⟨fun h w => conv_int (IntWalk.u64_in _ h) w⟩
instance convR_low8 (p : BitVec 64) [h1 : Und P t ut] [h2 : Und P t' (.int .u8)] : ConvR P t t' (.int .u64 (p.toNat : Int)) True (B8 (p.setWidth 8)) := ⟨fun _ w => conv_int (by
  rw [IntKind.wrap_u8, BitVec.toNat_setWidth]; omega) w⟩
instance (priority := low) convR_to_u8 (kx : IntKind) (a : Int) (p : BitVec 8) [h1 : Und P t ut] [h2 : Und P t' (.int .u8)] [ha : IsB8 a p] : ConvR P t t' (.int kx a) True (B8 p) := ⟨fun _ w => conv_int (by rw [wrap_u8, ha.eq]) w⟩
end

section
variable {ro : Option Nat} {P : Program} {N : Nat} {D : List Deferred} {w0 : World} {O : List Nat} {ops : Array Oper} {l : List Oper} {s : List (Nat × Value)} {m : List As} {Q : Exit → Act → World → Prop}
variable {d : Nat} {ty : TypeId} {pos : String} {af : Array Edge}

theorem G_binR {op : BinOp} {t t' : TypeId} {x y : Operand} {u v r : Value} {side : Prop} (hx : ev s x = some u) (hy : ev s y = some v) (hN : Nat.blt d N = true) [h : BinR P op t u v side r]
    (k : G ro P N D w0 O ops l ((d, r) :: s) m Q) (hs : side := by first | exact trivial | omega | (simp only [true_and, and_true, and_self]; omega) | exact ⟨trivial, rfl⟩ | exact ⟨rfl, rfl, by decide⟩ | rfl | (simp only [true_and, and_true, and_self]; done) | decide | assumption | exact ⟨by assumption, by omega⟩ | exact ⟨by assumption, by assumption⟩ | exact ⟨by assumption, by assumption, by omega⟩) : G ro P N D w0 O ops (⟨some d, .binOp op t x y t', ty, pos, af, none⟩ :: l) s m Q :=
  G_bin_any r hx hy hN (fun w => h.grd _ _ w) (fun w => h.ok hs w) k
theorem G_notR {t : TypeId} {x : Operand} {u r : Value} (hx : ev s x = some u) (hN : Nat.blt d N = true) [h : NotR u r] (k : G ro P N D w0 O ops l ((d, r) :: s) m Q) :
    G ro P N D w0 O ops (⟨some d, .unOp .not t x, ty, pos, af, none⟩ :: l) s m Q := by
  obtain ⟨b, rfl, rfl⟩ := h.ok
  exact G_not hx hN k
theorem G_negR {t : TypeId} {x : Operand} {i : Int} (hx : ev s x = some (I i)) (hN : Nat.blt d N = true) (k : G ro P N D w0 O ops l ((d, I (-i)) :: s) m Q) (hs : -9223372036854775807 ≤ i ∧ i ≤ 9223372036854775808 := by first | exact trivial | omega | (simp only [true_and, and_true, and_self]; omega) | exact ⟨trivial, rfl⟩ | exact ⟨rfl, rfl, by decide⟩ | rfl | (simp only [true_and, and_true, and_self]; done) | decide | assumption | exact ⟨by assumption, by omega⟩ | exact ⟨by assumption, by assumption⟩ | exact ⟨by assumption, by assumption, by omega⟩) :
    G ro P N D w0 O ops (⟨some d, .unOp .neg t x, ty, pos, af, none⟩ :: l) s m Q :=
  G_val _ rfl rfl (by simp) hN (fun a w hs' hm => by
    have e : IntKind.i64.wrap (0 - i) = -i := by rw [IntWalk.i64_in _ (by omega)]; omega
    have e2 : (Op.intArith .sub .i64 0 i).run P w = .ok (.int .i64 (IntKind.i64.wrap (0 - i))) w := rfl
    simp only [execOp, hs'.ev hx, Op.unary, Sem.run_bind, e2, Result.andThen, Sem.run_pure, e]) k
theorem G_convR {t t' : TypeId} {x : Operand} {u r : Value} {side : Prop} (hx : ev s x = some u) (hN : Nat.blt d N = true) [h : ConvR P t t' u side r]
    (k : G ro P N D w0 O ops l ((d, r) :: s) m Q) (hs : side := by first | exact trivial | omega | (simp only [true_and, and_true, and_self]; omega) | exact ⟨trivial, rfl⟩ | exact ⟨rfl, rfl, by decide⟩ | rfl | (simp only [true_and, and_true, and_self]; done) | decide | assumption | exact ⟨by assumption, by omega⟩ | exact ⟨by assumption, by assumption⟩ | exact ⟨by assumption, by assumption, by omega⟩) : G ro P N D w0 O ops (⟨some d, .convert t t' x, ty, pos, af, none⟩ :: l) s m Q :=
  G_val r rfl rfl (by simp) hN (fun a w hs' hm => by simp [execOp, hs'.ev hx, h.ok hs w]) k

/-! ### Tests -/
theorem GC_condT {c : Operand} {x y : Code} {v : Value} (hc : ev s c = some v) [h : TrueV v] (k : GC ro P N D w0 O x s m Q) : GC ro P N D w0 O (.cond c x y) s m Q := GC_cond_t (by rw [hc, h.eq]) k
theorem GC_condF {c : Operand} {x y : Code} {v : Value} (hc : ev s c = some v) [h : FalseV v] (k : GC ro P N D w0 O y s m Q) : GC ro P N D w0 O (.cond c x y) s m Q := GC_cond_f (by rw [hc, h.eq]) k
theorem GC_condD {c : Operand} {x y : Code} {v : Value} {p : Prop} (hc : ev s c = some v) [h : DecV v p] (ht : p → GC ro P N D w0 O x s m Q) (hf : ¬ p → GC ro P N D w0 O y s m Q) : GC ro P N D w0 O (.cond c x y) s m Q := by
  obtain ⟨i, rfl⟩ := h.ok
  exact GC_cond_dec hc ht hf

class RegionR (ops : Array Oper) (l : outParam (List Oper)) : Prop where
  eq : ops = l.toArray
theorem GC_regionR {id : Nat} {l : List Oper} (h0 : ∀ (ops : Array Oper) [RegionR ops l], G ro P N D w0 O ops l s m Q) : GC ro P N D w0 O (.region id l.toArray false) s m Q :=
  GC_region fun ops h => @h0 ops ⟨h.eq⟩

/-- the slot that a guard looks at is d' -/
def GAt (ops : Array Oper) (j d' : Nat) (X : Prop) : Prop := (ops[j]?).bind (·.dst) = some d' → X
theorem G_guardI {o : Op} {dst : Option Nat} {j : Nat} {b : Bool} {d' : Nat} {lr : List Oper} [hr : RegionR ops lr] (k : GAt ops j d' (G ro P N D w0 O ops (⟨dst, o, ty, pos, af, some (j, b)⟩ :: l) s m Q)) (hj : (lr[j]?).bind (·.dst) = some d' := by rfl) :
    G ro P N D w0 O ops (⟨dst, o, ty, pos, af, some (j, b)⟩ :: l) s m Q := k (by rw [hr.eq]; simpa using hj)
theorem G_guardT {o : Op} {dst : Option Nat} {j d' : Nat} {v : Value} (hv : look s d' = some v) [h : TrueV v] (k : G ro P N D w0 O ops (⟨dst, o, ty, pos, af, none⟩ :: l) s m Q) (hnd : ∀ c, o ≠ .defer c := by simp) :
    GAt ops j d' (G ro P N D w0 O ops (⟨dst, o, ty, pos, af, some (j, true)⟩ :: l) s m Q) := fun hj => G_guard_yes hj (by rw [hv, h.eq]) hnd k
theorem G_guardF {o : Op} {dst : Option Nat} {j d' : Nat} {v : Value} (hv : look s d' = some v) [h : FalseV v] (k : G ro P N D w0 O ops (⟨dst, o, ty, pos, af, none⟩ :: l) s m Q) (hnd : ∀ c, o ≠ .defer c := by simp) :
    GAt ops j d' (G ro P N D w0 O ops (⟨dst, o, ty, pos, af, some (j, false)⟩ :: l) s m Q) := fun hj => G_guard_yes hj (by rw [hv, h.eq]) hnd k
theorem G_guardTF {o : Op} {j d' : Nat} {v : Value} (hv : look s d' = some v) [h : FalseV v] (hN : Nat.blt d N = true) (k : G ro P N D w0 O ops l ((d, undef) :: s) m Q) :
    GAt ops j d' (G ro P N D w0 O ops (⟨some d, o, ty, pos, af, some (j, true)⟩ :: l) s m Q) := fun hj => G_guard_no hj (by rw [hv, h.eq]) rfl hN k
theorem G_guardFT {o : Op} {j d' : Nat} {v : Value} (hv : look s d' = some v) [h : TrueV v] (hN : Nat.blt d N = true) (k : G ro P N D w0 O ops l ((d, undef) :: s) m Q) :
    GAt ops j d' (G ro P N D w0 O ops (⟨some d, o, ty, pos, af, some (j, false)⟩ :: l) s m Q) := fun hj => G_guard_no hj (by rw [hv, h.eq]) rfl hN k

/-- a guard that was itself left out -/
theorem G_guardUU {o : Op} {j d' : Nat} {b : Bool} (hv : look s d' = some undef) (hN : Nat.blt d N = true) (k : G ro P N D w0 O ops l ((d, undef) :: s) m Q) :
    GAt ops j d' (G ro P N D w0 O ops (⟨some d, o, ty, pos, af, some (j, b)⟩ :: l) s m Q) := fun hj a w hs hdf hm => by
  have h1 := hs.at_ d' _ hv
  have hw : Region.wanted ⟨some d, o, ty, pos, af, some (j, b)⟩ (yielded ops a.tmps) = false := by
    rw [Array.getD_eq_getD_getElem?] at h1
    cases h : a.tmps[d']? with
    | none => simp [Region.wanted, yielded, hj, h]
    | some u =>
      rw [h] at h1
      simp only [Option.getD_some] at h1
      subst h1
      simp [Region.wanted, yielded, hj, h, undef]
  simp only [wpL, hw, Bool.false_eq_true, if_false]
  exact k _ _ (hs.put d undef hN) (by simpa [Act.put] using hdf) hm

/-- a slot's truth is settled -/
theorem G_settle {d' : Nat} {v : Value} {p : Prop} (hv : look s d' = some v) [h : DecV v p] (ht : p → G ro P N D w0 O ops l ((d', .bool true) :: s) m Q) (hf : ¬ p → G ro P N D w0 O ops l ((d', .bool false) :: s) m Q) :
    G ro P N D w0 O ops l s m Q := by
  obtain ⟨i, rfl⟩ := h.ok
  have key : ∀ b, look s d' = some (.bool b) → ∀ t u, look ((d', .bool b) :: s) t = some u → look s t = some u := fun b hb t u hu => by
    unfold look at hu
    by_cases e : d' = t
    · subst e
      simp only [Nat.beq_refl, cond_true, Option.some.injEq] at hu
      subst hu; exact hb
    · rw [beq_no e] at hu; exact hu
  intro a w hs hd hm
  by_cases hp : p
  · rw [decide_eq_true hp] at hv
    exact ht hp a w (sup hs hv) hd hm
  · rw [decide_eq_false hp] at hv
    exact hf hp a w (sup hs hv) hd hm
where sup {N : Nat} {s : List (Nat × Value)} {a : Act} {d' : Nat} {u : Value} (hs : Has N s a) (hv : look s d' = some u) : Has N ((d', u) :: s) a := ⟨hs.size, fun t v h => by
  unfold look at h
  by_cases e : d' = t
  · subst e
    simp only [Nat.beq_refl, cond_true, Option.some.injEq] at h
    subst h; exact hs.at_ _ _ hv
  · rw [beq_no e] at h; exact hs.at_ _ _ h⟩
theorem G_guardD {o : Op} {dst : Option Nat} {j d' : Nat} {b : Bool} {v : Value} {p : Prop} (hv : look s d' = some v) [h : DecV v p]
    (ht : p → GAt ops j d' (G ro P N D w0 O ops (⟨dst, o, ty, pos, af, some (j, b)⟩ :: l) ((d', .bool true) :: s) m Q)) (hf : ¬ p → GAt ops j d' (G ro P N D w0 O ops (⟨dst, o, ty, pos, af, some (j, b)⟩ :: l) ((d', .bool false) :: s) m Q)) :
    GAt ops j d' (G ro P N D w0 O ops (⟨dst, o, ty, pos, af, some (j, b)⟩ :: l) s m Q) := fun hj => G_settle hv (fun hp => ht hp hj) (fun hp => hf hp hj)

theorem G_pickT {c x y : Operand} {u v : Value} (hc : ev s c = some u) [h : TrueV u] (hx : ev s x = some v) (hN : Nat.blt d N = true) (k : G ro P N D w0 O ops l ((d, v) :: s) m Q) :
    G ro P N D w0 O ops (⟨some d, .pick c x y, ty, pos, af, none⟩ :: l) s m Q := G_pick_t (by rw [hc, h.eq]) hx hN k
theorem G_pickF {c x y : Operand} {u v : Value} (hc : ev s c = some u) [h : FalseV u] (hx : ev s y = some v) (hN : Nat.blt d N = true) (k : G ro P N D w0 O ops l ((d, v) :: s) m Q) :
    G ro P N D w0 O ops (⟨some d, .pick c x y, ty, pos, af, none⟩ :: l) s m Q := G_pick_f (by rw [hc, h.eq]) hx hN k
theorem G_pickD {c : Nat} {x y : Operand} {u : Value} {p : Prop} (hc : look s c = some u) [h : DecV u p]
    (ht : p → G ro P N D w0 O ops (⟨some d, .pick (.tmp c) x y, ty, pos, af, none⟩ :: l) ((c, .bool true) :: s) m Q) (hf : ¬ p → G ro P N D w0 O ops (⟨some d, .pick (.tmp c) x y, ty, pos, af, none⟩ :: l) ((c, .bool false) :: s) m Q) :
    G ro P N D w0 O ops (⟨some d, .pick (.tmp c) x y, ty, pos, af, none⟩ :: l) s m Q := G_settle hc ht hf
end
end Go.Proofs.Ytjdbdjmfimbbkaa
