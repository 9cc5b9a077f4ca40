/- Own texts of this seat, packed: Auto, Typ, Hold, Call, Draq, Drw, Str, Frm, Dra, Deep. -/
import Derived.Test.YtnncjfphdcfimaaK1
import Derived.Great.FillDense
import Derived.Laws.OwnMore
import Derived.Laws.Tables
/- What an operation gives, told by its values alone: classes, and one rule for each kind of operation. -/
set_option linter.unusedVariables false
set_option linter.unusedSimpArgs false
namespace Go.Proofs.Ytnncjfphdcfimaa
open Go.RowKit
universe u

/-! ### Truth -/
class TrueV (v : Value) : Prop where
  eq : v = .bool true
instance trueV_ : TrueV (.bool true) := ⟨rfl⟩
class FalseV (v : Value) : Prop where
  eq : v = .bool false
instance falseV_ : FalseV (.bool false) := ⟨rfl⟩
class Fct (p : Prop) : Prop where
  out : p
/-- p holds, p fails: what stands fast without a split -/
class Yes (p : Prop) : Prop where
  yes : p
class No (p : Prop) : Prop where
  no : ¬ p
instance yes_refl {α : Sort u} (a : α) : Yes (a = a) := ⟨rfl⟩
instance yes_true : Yes True := ⟨trivial⟩
instance no_false : No False := ⟨id⟩
instance yes_and {p q : Prop} [h : Yes p] [h' : Yes q] : Yes (p ∧ q) := ⟨⟨h.yes, h'.yes⟩⟩
instance no_andL {p q : Prop} [h : No p] : No (p ∧ q) := ⟨fun h2 => h.no h2.1⟩
instance no_andR {p q : Prop} [h : No q] : No (p ∧ q) := ⟨fun h2 => h.no h2.2⟩
instance yes_not {p : Prop} [h : No p] : Yes (¬ p) := ⟨h.no⟩
instance no_not {p : Prop} [h : Yes p] : No (¬ p) := ⟨fun h2 => h2 h.yes⟩
instance (priority := low) yes_fct {p : Prop} [h : Fct p] : Yes p := ⟨h.out⟩
instance (priority := low) no_fct {p : Prop} [h : Fct (¬ p)] : No p := ⟨h.out⟩
instance trueV_yes {p : Prop} [i : Decidable p] [h : Yes p] : TrueV (.bool (decide p)) := ⟨by rw [decide_eq_true h.yes]⟩
instance falseV_no {p : Prop} [i : Decidable p] [h : No p] : FalseV (.bool (decide p)) := ⟨by rw [decide_eq_false h.no]⟩
/-- v is the truth of p -/
class DecV (v : Value) (p : outParam Prop) : Prop where
  ok : ∃ i : Decidable p, v = .bool (@decide p i)
instance decV_dec (p : Prop) [i : Decidable p] : DecV (.bool (decide p)) p := ⟨i, rfl⟩
instance (priority := low) decV_any (b : Bool) : DecV (.bool b) (b = true) := ⟨inferInstance, by simp⟩

/-- a number's natural number -/
class NatR (i : Int) (j : outParam Nat) (side : outParam Prop) : Prop where
  eq : side → i = (j : Int)
instance (priority := high) natR_cast (j : Nat) : NatR (j : Int) j True := ⟨fun _ => rfl⟩
instance (priority := high) natR_lit (n : Nat) : NatR (no_index (OfNat.ofNat n)) (OfNat.ofNat n) True := ⟨fun _ => rfl⟩
instance natR_add (a b : Int) (i j : Nat) (p q : Prop) [ha : NatR a i p] [hb : NatR b j q] : NatR (a + b) (i + j) (p ∧ q) := ⟨fun h => by rw [ha.eq h.1, hb.eq h.2]; simp⟩
instance natR_mul (a b : Int) (i j : Nat) (p q : Prop) [ha : NatR a i p] [hb : NatR b j q] : NatR (a * b) (i * j) (p ∧ q) := ⟨fun h => by rw [ha.eq h.1, hb.eq h.2]; simp⟩
instance natR_div (a b : Int) (i j : Nat) (p q : Prop) [ha : NatR a i p] [hb : NatR b j q] : NatR (a / b) (i / j) (p ∧ q) := ⟨fun h => by rw [ha.eq h.1, hb.eq h.2]; simp⟩
instance natR_mod (a b : Int) (i j : Nat) (p q : Prop) [ha : NatR a i p] [hb : NatR b j q] : NatR (a % b) (i % j) (p ∧ q) := ⟨fun h => by rw [ha.eq h.1, hb.eq h.2]; simp⟩
instance natR_sub (a b : Int) (i j : Nat) (p q : Prop) [ha : NatR a i p] [hb : NatR b j q] : NatR (a - b) (i - j) ((p ∧ q) ∧ j ≤ i) := ⟨fun h => by rw [ha.eq h.1.1, hb.eq h.1.2, Int.ofNat_sub h.2]⟩
instance (priority := low) natR_any (i : Int) : NatR i i.toNat (0 ≤ i) := ⟨fun h => (Int.toNat_of_nonneg h).symm⟩

/-! ### Operations of two values -/
class BinR (P : Program) (op : BinOp) (t : TypeId) (u v : Value) (side : outParam Prop) (r : outParam Value) : Prop where
  grd : ∀ x y w, (eqGuard op t x y u v).run P w = .ok () w
  ok : side → ∀ w, (binOp op t u v).run P w = .ok r w

theorem grd_int {P : Program} {op : BinOp} {t : TypeId} {k k' : IntKind} {a b : Int} : ∀ x y w, (eqGuard op t x y (.int k a) (.int k' b)).run P w = .ok () w := fun x y w => by
  unfold eqGuard; cases op <;> rfl

section
variable {P : Program} {t : TypeId}
instance binR_add (a b : Int) : BinR P .add t (I a) (I b) (-9223372036854775808 ≤ a + b ∧ a + b ≤ 9223372036854775807) (I (a + b)) := ⟨grd_int, fun h w => by
  show Result.ok (Value.int .i64 (IntKind.i64.wrap (a + b))) w = _; rw [IntWalk.i64_in _ h]⟩
instance binR_sub (a b : Int) : BinR P .sub t (I a) (I b) (-9223372036854775808 ≤ a - b ∧ a - b ≤ 9223372036854775807) (I (a - b)) := ⟨grd_int, fun h w => by
  show Result.ok (Value.int .i64 (IntKind.i64.wrap (a - b))) w = _; rw [IntWalk.i64_in _ h]⟩
instance binR_mul (a b : Int) : BinR P .mul t (I a) (I b) (-9223372036854775808 ≤ a * b ∧ a * b ≤ 9223372036854775807) (I (a * b)) := ⟨grd_int, fun h w => by
  show Result.ok (Value.int .i64 (IntKind.i64.wrap (a * b))) w = _; rw [IntWalk.i64_in _ h]⟩
instance binR_quo (a b : Int) : BinR P .quo t (I a) (I b) (0 ≤ a ∧ a ≤ 9223372036854775807 ∧ 1 ≤ b) (I (a / b)) := ⟨grd_int, fun h w => by
  have h0 : ¬ b = 0 := by omega
  show (Op.intDiv .quo .i64 a b).run P w = _
  simp only [Op.intDiv, h0, if_false, Sem.run_pure]
  rw [IntWalk.i64_quo a b h]⟩
instance binR_rem (a b : Int) : BinR P .rem t (I a) (I b) (0 ≤ a ∧ 1 ≤ b) (I (a % b)) := ⟨grd_int, fun h w => by
  have h0 : ¬ b = 0 := by omega
  show (Op.intDiv .rem .i64 a b).run P w = _
  simp only [Op.intDiv, h0, if_false, Sem.run_pure]
  rw [IntWalk.rem_in a b h.1]⟩
instance binR_lss (k : IntKind) (a b : Int) : BinR P .lss t (.int k a) (.int k b) True (.bool (decide (a < b))) := ⟨grd_int, fun _ w => by cases k <;> rfl⟩
instance binR_leq (k : IntKind) (a b : Int) : BinR P .leq t (.int k a) (.int k b) True (.bool (decide (a ≤ b))) := ⟨grd_int, fun _ w => by cases k <;> rfl⟩
instance binR_gtr (k : IntKind) (a b : Int) : BinR P .gtr t (.int k a) (.int k b) True (.bool (decide (b < a))) := ⟨grd_int, fun _ w => by cases k <;> rfl⟩
instance binR_geq (k : IntKind) (a b : Int) : BinR P .geq t (.int k a) (.int k b) True (.bool (decide (b ≤ a))) := ⟨grd_int, fun _ w => by cases k <;> rfl⟩
instance binR_eql (k : IntKind) (a b : Int) : BinR P .eql t (.int k a) (.int k b) True (.bool (decide (a = b))) := ⟨grd_int, fun _ w => by cases k <;> rfl⟩
instance binR_neq (k : IntKind) (a b : Int) : BinR P .neq t (.int k a) (.int k b) True (.bool (decide (¬ a = b))) := ⟨grd_int, fun _ w => by
  have : (a != b) = decide (¬ a = b) := by simp [bne, BEq.beq]
  rw [← this]; cases k <;> rfl⟩

/-! 64 bits without a sign -/
instance binR_xor64 (a b : Int) (p q : BitVec 64) [ha : IsB a p] [hb : IsB b q] : BinR P .xor t (.int .u64 a) (.int .u64 b) True (U (p ^^^ q)) := ⟨grd_int, fun _ w => by
  simp only [binOp, ne_eq, not_true, if_false, Op.intBits, Sem.run_pure, IntKind.bits]; rw [ha.eq, hb.eq, wrap_u64_nat]; rfl⟩
instance binR_or64 (a b : Int) (p q : BitVec 64) [ha : IsB a p] [hb : IsB b q] : BinR P .or t (.int .u64 a) (.int .u64 b) True (U (p ||| q)) := ⟨grd_int, fun _ w => by
  simp only [binOp, ne_eq, not_true, if_false, Op.intBits, Sem.run_pure, IntKind.bits]; rw [ha.eq, hb.eq, wrap_u64_nat]; rfl⟩
instance binR_and64 (a b : Int) (p q : BitVec 64) [ha : IsB a p] [hb : IsB b q] : BinR P .and t (.int .u64 a) (.int .u64 b) True (U (p &&& q)) := ⟨grd_int, fun _ w => by
  simp only [binOp, ne_eq, not_true, if_false, Op.intBits, Sem.run_pure, IntKind.bits]; rw [ha.eq, hb.eq, wrap_u64_nat]; rfl⟩
instance binR_add64 (a b : Int) (p q : BitVec 64) [ha : IsB a p] [hb : IsB b q] : BinR P .add t (.int .u64 a) (.int .u64 b) True (U (p + q)) := ⟨grd_int, fun _ w => by
  simp only [binOp, ne_eq, not_true, if_false, Op.intArith, Sem.run_pure]; rw [wrap_u64, BitVec.ofInt_add, ha.eq, hb.eq]⟩
instance binR_sub64 (a b : Int) (p q : BitVec 64) [ha : IsB a p] [hb : IsB b q] : BinR P .sub t (.int .u64 a) (.int .u64 b) True (U (p - q)) := ⟨grd_int, fun _ w => by
  simp only [binOp, ne_eq, not_true, if_false, Op.intArith, Sem.run_pure]; rw [wrap_u64, Int.sub_eq_add_neg, BitVec.ofInt_add, BitVec.ofInt_neg, ha.eq, hb.eq, ← BitVec.sub_eq_add_neg]⟩
instance binR_mul64 (a b : Int) (p q : BitVec 64) [ha : IsB a p] [hb : IsB b q] : BinR P .mul t (.int .u64 a) (.int .u64 b) True (U (p * q)) := ⟨grd_int, fun _ w => by
  simp only [binOp, ne_eq, not_true, if_false, Op.intArith, Sem.run_pure]; rw [wrap_u64, BitVec.ofInt_mul, ha.eq, hb.eq]⟩
instance binR_rem64 (a b : Int) (p q : BitVec 64) [ha : IsB a p] [hb : IsB b q] : BinR P .rem t (.int .u64 a) (.int .u64 b) (a = (p.toNat : Int) ∧ b = (q.toNat : Int) ∧ ¬ q.toNat = 0) (U (p % q)) := ⟨grd_int, fun ⟨ea, eb, hq⟩ w => by
  rw [ea, eb]
  have h0 : ¬ (q.toNat : Int) = 0 := by omega
  simp only [binOp, ne_eq, not_true, if_false, Op.intDiv, h0, Sem.run_pure]
  have e : ((p.toNat : Int)).tmod (q.toNat : Int) = ((p % q).toNat : Int) := by rw [BitVec.toNat_umod]; rfl
  rw [e]⟩
instance binR_quo64 (a b : Int) (p q : BitVec 64) [ha : IsB a p] [hb : IsB b q] : BinR P .quo t (.int .u64 a) (.int .u64 b) (a = (p.toNat : Int) ∧ b = (q.toNat : Int) ∧ ¬ q.toNat = 0) (U (p / q)) := ⟨grd_int, fun ⟨ea, eb, hq⟩ w => by
  rw [ea, eb]
  have h0 : ¬ (q.toNat : Int) = 0 := by omega
  simp only [binOp, ne_eq, not_true, if_false, Op.intDiv, h0, Sem.run_pure]
  have e : ((p.toNat : Int)).tdiv (q.toNat : Int) = ((p / q).toNat : Int) := by rw [BitVec.toNat_udiv]; rfl
  rw [e, wrap_u64_nat]⟩
instance binR_shr64 (p : BitVec 64) (b : Int) (yk : IntKind) (j : Nat) (sd : Prop) [hb : NatR b j sd] : BinR P .shr t (.int .u64 (p.toNat : Int)) (.int yk b) sd (U (p >>> j)) := ⟨grd_int, fun h w => by
  rw [hb.eq h]
  have h0 : ¬ (j : Int) < 0 := by omega
  simp only [binOp, Op.shift, if_neg h0, Sem.run_pure]
  exact congrArg (fun n => Result.ok (Value.int .u64 n) w) (shr_val p j)⟩
instance binR_shl64 (a : Int) (p : BitVec 64) [ha : IsB a p] (b : Int) (yk : IntKind) (j : Nat) (sd : Prop) [hb : NatR b j sd] : BinR P .shl t (.int .u64 a) (.int yk b) (sd ∧ a = (p.toNat : Int)) (U (p <<< j)) := ⟨grd_int, fun h w => by
  rw [hb.eq h.1, h.2]
  have h0 : ¬ (j : Int) < 0 := by omega
  simp only [binOp, Op.shift, if_neg h0, Sem.run_pure]
  exact congrArg (fun n => Result.ok (Value.int .u64 n) w) (shl_val p j)⟩

/-! bytes -/
instance binR_xor8 (a b : Int) (p q : BitVec 8) [ha : IsB8 a p] [hb : IsB8 b q] : BinR P .xor t (.int .u8 a) (.int .u8 b) True (B8 (p ^^^ q)) := ⟨grd_int, fun _ w => by
  simp only [binOp, ne_eq, not_true, if_false, Op.intBits, Sem.run_pure, IntKind.bits]; rw [ha.eq, hb.eq, wrap_u8_nat]; rfl⟩
instance binR_or8 (a b : Int) (p q : BitVec 8) [ha : IsB8 a p] [hb : IsB8 b q] : BinR P .or t (.int .u8 a) (.int .u8 b) True (B8 (p ||| q)) := ⟨grd_int, fun _ w => by
  simp only [binOp, ne_eq, not_true, if_false, Op.intBits, Sem.run_pure, IntKind.bits]; rw [ha.eq, hb.eq, wrap_u8_nat]; rfl⟩
instance binR_and8 (a b : Int) (p q : BitVec 8) [ha : IsB8 a p] [hb : IsB8 b q] : BinR P .and t (.int .u8 a) (.int .u8 b) True (B8 (p &&& q)) := ⟨grd_int, fun _ w => by
  simp only [binOp, ne_eq, not_true, if_false, Op.intBits, Sem.run_pure, IntKind.bits]; rw [ha.eq, hb.eq, wrap_u8_nat]; rfl⟩
instance binR_add8 (a b : Int) (p q : BitVec 8) [ha : IsB8 a p] [hb : IsB8 b q] : BinR P .add t (.int .u8 a) (.int .u8 b) True (B8 (p + q)) := ⟨grd_int, fun _ w => by
  simp only [binOp, ne_eq, not_true, if_false, Op.intArith, Sem.run_pure]; rw [wrap_u8, BitVec.ofInt_add, ha.eq, hb.eq]⟩
instance binR_sub8 (a b : Int) (p q : BitVec 8) [ha : IsB8 a p] [hb : IsB8 b q] : BinR P .sub t (.int .u8 a) (.int .u8 b) True (B8 (p - q)) := ⟨grd_int, fun _ w => by
  simp only [binOp, ne_eq, not_true, if_false, Op.intArith, Sem.run_pure]; rw [wrap_u8, Int.sub_eq_add_neg, BitVec.ofInt_add, BitVec.ofInt_neg, ha.eq, hb.eq, ← BitVec.sub_eq_add_neg]⟩
instance binR_rem8 (p : BitVec 8) (b : Int) : BinR P .rem t (.int .u8 (p.toNat : Int)) (.int .u8 b) (1 ≤ b) (.int .u8 ((p.toNat : Int) % b)) := ⟨grd_int, fun h w => by
  have h0 : ¬ b = 0 := by omega
  show (Op.intDiv .rem .u8 _ b).run P w = _
  simp only [Op.intDiv, h0, if_false, Sem.run_pure]
  rw [Int.tmod_eq_emod_of_nonneg (by omega)]⟩
instance binR_shr8 (p : BitVec 8) (b : Int) (yk : IntKind) (j : Nat) (sd : Prop) [hb : NatR b j sd] : BinR P .shr t (.int .u8 (p.toNat : Int)) (.int yk b) sd (B8 (p >>> j)) := ⟨grd_int, fun h w => by
  rw [hb.eq h]
  have h0 : ¬ (j : Int) < 0 := by omega
  simp only [binOp, Op.shift, if_neg h0, Sem.run_pure]
  exact congrArg (fun n => Result.ok (Value.int .u8 n) w) (shr_val8 p j)⟩
instance binR_shl8 (a : Int) (p : BitVec 8) [ha : IsB8 a p] (b : Int) (yk : IntKind) (j : Nat) (sd : Prop) [hb : NatR b j sd] : BinR P .shl t (.int .u8 a) (.int yk b) (sd ∧ a = (p.toNat : Int)) (B8 (p <<< j)) := ⟨grd_int, fun h w => by
  rw [hb.eq h.1, h.2]
  have h0 : ¬ (j : Int) < 0 := by omega
  simp only [binOp, Op.shift, if_neg h0, Sem.run_pure]
  exact congrArg (fun n => Result.ok (Value.int .u8 n) w) (shl_val8 p j)⟩
/-! other kinds without a sign: remainders -/
instance binR_rem16 (a b : Int) : BinR P .rem t (.int .u16 a) (.int .u16 b) (0 ≤ a ∧ 1 ≤ b) (.int .u16 (a % b)) := ⟨grd_int, fun h w => by
  have h0 : ¬ b = 0 := by omega
  show (Op.intDiv .rem .u16 _ b).run P w = _
  simp only [Op.intDiv, h0, if_false, Sem.run_pure]
  rw [Int.tmod_eq_emod_of_nonneg (by omega)]⟩

/-! bools -/
instance binR_eqlB (a b : Bool) [ht : Und P t .bool] : BinR P .eql t (.bool a) (.bool b) True (.bool (decide (a = b))) := ⟨fun x y w => by simp [eqGuard], fun _ w => by
  have : (a == b) = decide (a = b) := by cases a <;> cases b <;> rfl
  simp [binOp, Op.equal, Op.maxDepth, run_equalIn_bool' w 9999 t a b ht.eq, this]⟩
instance binR_neqB (a b : Bool) [ht : Und P t .bool] : BinR P .neq t (.bool a) (.bool b) True (.bool (decide (¬ a = b))) := ⟨fun x y w => by simp [eqGuard], fun _ w => by
  have : (!(a == b)) = decide (¬ a = b) := by cases a <;> cases b <;> rfl
  simp [binOp, Op.equal, Op.maxDepth, run_equalIn_bool' w 9999 t a b ht.eq, this]⟩
end

/-! ### One value -/
class NotR (v : Value) (r : outParam Value) : Prop where
  ok : ∃ b, v = .bool b ∧ r = .bool (!b)
instance (priority := high) notR_true : NotR (.bool true) (.bool false) := ⟨_, rfl, rfl⟩
instance (priority := high) notR_false : NotR (.bool false) (.bool true) := ⟨_, rfl, rfl⟩
instance notR_dec (p : Prop) [Decidable p] : NotR (.bool (decide p)) (.bool (decide (¬ p))) := ⟨_, rfl, by simp⟩
instance (priority := low) notR_any (b : Bool) : NotR (.bool b) (.bool (decide (¬ b = true))) := ⟨_, rfl, by cases b <;> rfl⟩

/-- a type that is Go's uint -/
class UintT (t : TypeId) : Prop where
  ok : True
class ConvR (P : Program) (t t' : TypeId) (u : Value) (side : outParam Prop) (r : outParam Value) : Prop where
  ok : side → ∀ w, (convert t t' u).run P w = .ok r w

theorem conv_int {P : Program} {t t' : TypeId} {ut : TypeDesc} {kx ky : IntKind} {a v : Int} [h1 : Und P t ut] [h2 : Und P t' (.int ky)] (hv : ky.wrap a = v) (w : World) : (convert t t' (.int kx a)).run P w = .ok (.int ky v) w := by
  subst hv; simp [convert, underlying, h1.eq, h2.eq, Conv.intToInt]

section
variable {P : Program} {t t' : TypeId} {ut : TypeDesc}
instance convR_u64_int (p : BitVec 64) [h1 : Und P t ut] [h2 : Und P t' (.int .i64)] : ConvR P t t' (.int .u64 (p.toNat : Int)) True (I p.toInt) := ⟨fun _ w => conv_int (by
  rw [IntKind.wrap_i64, BitVec.toInt_eq_toNat_cond]
  have := p.isLt
  split <;> omega) w⟩
instance convR_int_int (a : Int) [h1 : Und P t ut] [h2 : Und P t' (.int .i64)] : ConvR P t t' (.int .i64 a) (-9223372036854775808 ≤ a ∧ a ≤ 9223372036854775807) (I a) := ⟨fun h w => conv_int (IntWalk.i64_in _ h) w⟩
instance (priority := low) convR_to_int (kx : IntKind) (a : Int) [h1 : Und P t ut] [h2 : Und P t' (.int .i64)] : ConvR P t t' (.int kx a) (-9223372036854775808 ≤ a ∧ a ≤ 9223372036854775807) (I a) := ⟨fun h w => conv_int (IntWalk.i64_in _ h) w⟩
instance convR_to_u64 (kx : IntKind) (a : Int) (p : BitVec 64) [h1 : Und P t ut] [h2 : Und P t' (.int .u64)] [ha : IsB a p] : ConvR P t t' (.int kx a) True (U p) := ⟨fun _ w => conv_int (by rw [wrap_u64, ha.eq]) w⟩
instance convR_u8_u64 (p : BitVec 8) [h1 : Und P t ut] [h2 : Und P t' (.int .u64)] : ConvR P t t' (.int .u8 (p.toNat : Int)) True (U (p.setWidth 64)) := ⟨fun _ w => conv_int (by
  rw [wrap_u64]; congr 1; simp) w⟩
instance (priority := high) convR_uint (kx : IntKind) (a : Int) [h1 : Und P t ut] [h2 : Und P t' (.int .u64)] [UintT t'] : ConvR P t t' (.int kx a) (0 ≤ a ∧ a ≤ 18446744073709551615) (.int .u64 a) := ⟨fun h w => conv_int (IntWalk.u64_in _ h) w⟩
instance convR_low8 (p : BitVec 64) [h1 : Und P t ut] [h2 : Und P t' (.int .u8)] : ConvR P t t' (.int .u64 (p.toNat : Int)) True (B8 (p.setWidth 8)) := ⟨fun _ w => conv_int (by
  rw [IntKind.wrap_u8, BitVec.toNat_setWidth]; omega) w⟩
instance (priority := low) convR_to_u8 (kx : IntKind) (a : Int) (p : BitVec 8) [h1 : Und P t ut] [h2 : Und P t' (.int .u8)] [ha : IsB8 a p] : ConvR P t t' (.int kx a) True (B8 p) := ⟨fun _ w => conv_int (by rw [wrap_u8, ha.eq]) w⟩
end

section
variable {ro : Option Nat} {P : Program} {N : Nat} {D : List Deferred} {w0 : World} {O : List Nat} {ops : Array Oper} {l : List Oper} {s : List (Nat × Value)} {m : List As} {Q : Exit → Act → World → Prop}
variable {d : Nat} {ty : TypeId} {pos : String} {af : Array Edge}

theorem G_binR {op : BinOp} {t t' : TypeId} {x y : Operand} {u v r : Value} {side : Prop} (hx : ev s x = some u) (hy : ev s y = some v) (hN : Nat.blt d N = true) [h : BinR P op t u v side r]
    (k : G ro P N D w0 O ops l ((d, r) :: s) m Q) (hs : side := by first | exact trivial | omega | (simp only [true_and, and_true, and_self]; omega) | exact ⟨trivial, rfl⟩ | exact ⟨rfl, rfl, by decide⟩ | rfl | (simp only [true_and, and_true, and_self]; done) | decide | assumption | exact ⟨by assumption, by omega⟩ | exact ⟨by assumption, by assumption⟩ | exact ⟨by assumption, by assumption, by omega⟩) : G ro P N D w0 O ops (⟨some d, .binOp op t x y t', ty, pos, af, none⟩ :: l) s m Q :=
  G_bin_any r hx hy hN (fun w => h.grd _ _ w) (fun w => h.ok hs w) k
theorem G_notR {t : TypeId} {x : Operand} {u r : Value} (hx : ev s x = some u) (hN : Nat.blt d N = true) [h : NotR u r] (k : G ro P N D w0 O ops l ((d, r) :: s) m Q) :
    G ro P N D w0 O ops (⟨some d, .unOp .not t x, ty, pos, af, none⟩ :: l) s m Q := by
  obtain ⟨b, rfl, rfl⟩ := h.ok
  exact G_not hx hN k
theorem G_negR {t : TypeId} {x : Operand} {i : Int} (hx : ev s x = some (I i)) (hN : Nat.blt d N = true) (k : G ro P N D w0 O ops l ((d, I (-i)) :: s) m Q) (hs : -9223372036854775807 ≤ i ∧ i ≤ 9223372036854775808 := by first | exact trivial | omega | (simp only [true_and, and_true, and_self]; omega) | exact ⟨trivial, rfl⟩ | exact ⟨rfl, rfl, by decide⟩ | rfl | (simp only [true_and, and_true, and_self]; done) | decide | assumption | exact ⟨by assumption, by omega⟩ | exact ⟨by assumption, by assumption⟩ | exact ⟨by assumption, by assumption, by omega⟩) :
    G ro P N D w0 O ops (⟨some d, .unOp .neg t x, ty, pos, af, none⟩ :: l) s m Q :=
  G_val _ rfl rfl (by simp) hN (fun a w hs' hm => by
    have e : IntKind.i64.wrap (0 - i) = -i := by rw [IntWalk.i64_in _ (by omega)]; omega
    have e2 : (Op.intArith .sub .i64 0 i).run P w = .ok (.int .i64 (IntKind.i64.wrap (0 - i))) w := rfl
    simp only [execOp, hs'.ev hx, Op.unary, Sem.run_bind, e2, Result.andThen, Sem.run_pure, e]) k
theorem G_convR {t t' : TypeId} {x : Operand} {u r : Value} {side : Prop} (hx : ev s x = some u) (hN : Nat.blt d N = true) [h : ConvR P t t' u side r]
    (k : G ro P N D w0 O ops l ((d, r) :: s) m Q) (hs : side := by first | exact trivial | omega | (simp only [true_and, and_true, and_self]; omega) | exact ⟨trivial, rfl⟩ | exact ⟨rfl, rfl, by decide⟩ | rfl | (simp only [true_and, and_true, and_self]; done) | decide | assumption | exact ⟨by assumption, by omega⟩ | exact ⟨by assumption, by assumption⟩ | exact ⟨by assumption, by assumption, by omega⟩) : G ro P N D w0 O ops (⟨some d, .convert t t' x, ty, pos, af, none⟩ :: l) s m Q :=
  G_val r rfl rfl (by simp) hN (fun a w hs' hm => by simp [execOp, hs'.ev hx, h.ok hs w]) k

/-! ### Tests -/
theorem GC_condT {c : Operand} {x y : Code} {v : Value} (hc : ev s c = some v) [h : TrueV v] (k : GC ro P N D w0 O x s m Q) : GC ro P N D w0 O (.cond c x y) s m Q := GC_cond_t (by rw [hc, h.eq]) k
theorem GC_condF {c : Operand} {x y : Code} {v : Value} (hc : ev s c = some v) [h : FalseV v] (k : GC ro P N D w0 O y s m Q) : GC ro P N D w0 O (.cond c x y) s m Q := GC_cond_f (by rw [hc, h.eq]) k
theorem GC_condD {c : Operand} {x y : Code} {v : Value} {p : Prop} (hc : ev s c = some v) [h : DecV v p] (ht : p → GC ro P N D w0 O x s m Q) (hf : ¬ p → GC ro P N D w0 O y s m Q) : GC ro P N D w0 O (.cond c x y) s m Q := by
  obtain ⟨i, rfl⟩ := h.ok
  exact GC_cond_dec hc ht hf

class RegionR (ops : Array Oper) (l : outParam (List Oper)) : Prop where
  eq : ops = l.toArray
theorem GC_regionR {id : Nat} {l : List Oper} (h0 : ∀ (ops : Array Oper) [RegionR ops l], G ro P N D w0 O ops l s m Q) : GC ro P N D w0 O (.region id l.toArray false) s m Q :=
  GC_region fun ops h => @h0 ops ⟨h.eq⟩

/-- the slot that a guard looks at is d' -/
def GAt (ops : Array Oper) (j d' : Nat) (X : Prop) : Prop := (ops[j]?).bind (·.dst) = some d' → X
theorem G_guardI {o : Op} {dst : Option Nat} {j : Nat} {b : Bool} {d' : Nat} {lr : List Oper} [hr : RegionR ops lr] (k : GAt ops j d' (G ro P N D w0 O ops (⟨dst, o, ty, pos, af, some (j, b)⟩ :: l) s m Q)) (hj : (lr[j]?).bind (·.dst) = some d' := by rfl) :
    G ro P N D w0 O ops (⟨dst, o, ty, pos, af, some (j, b)⟩ :: l) s m Q := k (by rw [hr.eq]; simpa using hj)
theorem G_guardT {o : Op} {dst : Option Nat} {j d' : Nat} {v : Value} (hv : look s d' = some v) [h : TrueV v] (k : G ro P N D w0 O ops (⟨dst, o, ty, pos, af, none⟩ :: l) s m Q) (hnd : ∀ c, o ≠ .defer c := by simp) :
    GAt ops j d' (G ro P N D w0 O ops (⟨dst, o, ty, pos, af, some (j, true)⟩ :: l) s m Q) := fun hj => G_guard_yes hj (by rw [hv, h.eq]) hnd k
theorem G_guardF {o : Op} {dst : Option Nat} {j d' : Nat} {v : Value} (hv : look s d' = some v) [h : FalseV v] (k : G ro P N D w0 O ops (⟨dst, o, ty, pos, af, none⟩ :: l) s m Q) (hnd : ∀ c, o ≠ .defer c := by simp) :
    GAt ops j d' (G ro P N D w0 O ops (⟨dst, o, ty, pos, af, some (j, false)⟩ :: l) s m Q) := fun hj => G_guard_yes hj (by rw [hv, h.eq]) hnd k
theorem G_guardTF {o : Op} {j d' : Nat} {v : Value} (hv : look s d' = some v) [h : FalseV v] (hN : Nat.blt d N = true) (k : G ro P N D w0 O ops l ((d, undef) :: s) m Q) :
    GAt ops j d' (G ro P N D w0 O ops (⟨some d, o, ty, pos, af, some (j, true)⟩ :: l) s m Q) := fun hj => G_guard_no hj (by rw [hv, h.eq]) rfl hN k
theorem G_guardFT {o : Op} {j d' : Nat} {v : Value} (hv : look s d' = some v) [h : TrueV v] (hN : Nat.blt d N = true) (k : G ro P N D w0 O ops l ((d, undef) :: s) m Q) :
    GAt ops j d' (G ro P N D w0 O ops (⟨some d, o, ty, pos, af, some (j, false)⟩ :: l) s m Q) := fun hj => G_guard_no hj (by rw [hv, h.eq]) rfl hN k

/-- a guard that was itself left out -/
theorem G_guardUU {o : Op} {j d' : Nat} {b : Bool} (hv : look s d' = some undef) (hN : Nat.blt d N = true) (k : G ro P N D w0 O ops l ((d, undef) :: s) m Q) :
    GAt ops j d' (G ro P N D w0 O ops (⟨some d, o, ty, pos, af, some (j, b)⟩ :: l) s m Q) := fun hj a w hs hdf hm => by
  have h1 := hs.at_ d' _ hv
  have hw : Region.wanted ⟨some d, o, ty, pos, af, some (j, b)⟩ (yielded ops a.tmps) = false := by
    rw [Array.getD_eq_getD_getElem?] at h1
    cases h : a.tmps[d']? with
    | none => simp [Region.wanted, yielded, hj, h]
    | some u =>
      rw [h] at h1
      simp only [Option.getD_some] at h1
      subst h1
      simp [Region.wanted, yielded, hj, h, undef]
  simp only [wpL, hw, Bool.false_eq_true, if_false]
  exact k _ _ (hs.put d undef hN) (by simpa [Act.put] using hdf) hm

/-- a slot's truth is settled -/
theorem G_settle {d' : Nat} {v : Value} {p : Prop} (hv : look s d' = some v) [h : DecV v p] (ht : p → G ro P N D w0 O ops l ((d', .bool true) :: s) m Q) (hf : ¬ p → G ro P N D w0 O ops l ((d', .bool false) :: s) m Q) :
    G ro P N D w0 O ops l s m Q := by
  obtain ⟨i, rfl⟩ := h.ok
  have key : ∀ b, look s d' = some (.bool b) → ∀ t u, look ((d', .bool b) :: s) t = some u → look s t = some u := fun b hb t u hu => by
    unfold look at hu
    by_cases e : d' = t
    · subst e
      simp only [Nat.beq_refl, cond_true, Option.some.injEq] at hu
      subst hu; exact hb
    · rw [beq_no e] at hu; exact hu
  intro a w hs hd hm
  by_cases hp : p
  · rw [decide_eq_true hp] at hv
    exact ht hp a w (sup hs hv) hd hm
  · rw [decide_eq_false hp] at hv
    exact hf hp a w (sup hs hv) hd hm
where sup {N : Nat} {s : List (Nat × Value)} {a : Act} {d' : Nat} {u : Value} (hs : Has N s a) (hv : look s d' = some u) : Has N ((d', u) :: s) a := ⟨hs.size, fun t v h => by
  unfold look at h
  by_cases e : d' = t
  · subst e
    simp only [Nat.beq_refl, cond_true, Option.some.injEq] at h
    subst h; exact hs.at_ _ _ hv
  · rw [beq_no e] at h; exact hs.at_ _ _ h⟩
theorem G_guardD {o : Op} {dst : Option Nat} {j d' : Nat} {b : Bool} {v : Value} {p : Prop} (hv : look s d' = some v) [h : DecV v p]
    (ht : p → GAt ops j d' (G ro P N D w0 O ops (⟨dst, o, ty, pos, af, some (j, b)⟩ :: l) ((d', .bool true) :: s) m Q)) (hf : ¬ p → GAt ops j d' (G ro P N D w0 O ops (⟨dst, o, ty, pos, af, some (j, b)⟩ :: l) ((d', .bool false) :: s) m Q)) :
    GAt ops j d' (G ro P N D w0 O ops (⟨dst, o, ty, pos, af, some (j, b)⟩ :: l) s m Q) := fun hj => G_settle hv (fun hp => ht hp hj) (fun hp => hf hp hj)

theorem G_pickT {c x y : Operand} {u v : Value} (hc : ev s c = some u) [h : TrueV u] (hx : ev s x = some v) (hN : Nat.blt d N = true) (k : G ro P N D w0 O ops l ((d, v) :: s) m Q) :
    G ro P N D w0 O ops (⟨some d, .pick c x y, ty, pos, af, none⟩ :: l) s m Q := G_pick_t (by rw [hc, h.eq]) hx hN k
theorem G_pickF {c x y : Operand} {u v : Value} (hc : ev s c = some u) [h : FalseV u] (hx : ev s y = some v) (hN : Nat.blt d N = true) (k : G ro P N D w0 O ops l ((d, v) :: s) m Q) :
    G ro P N D w0 O ops (⟨some d, .pick c x y, ty, pos, af, none⟩ :: l) s m Q := G_pick_f (by rw [hc, h.eq]) hx hN k
theorem G_pickD {c : Nat} {x y : Operand} {u : Value} {p : Prop} (hc : look s c = some u) [h : DecV u p]
    (ht : p → G ro P N D w0 O ops (⟨some d, .pick (.tmp c) x y, ty, pos, af, none⟩ :: l) ((c, .bool true) :: s) m Q) (hf : ¬ p → G ro P N D w0 O ops (⟨some d, .pick (.tmp c) x y, ty, pos, af, none⟩ :: l) ((c, .bool false) :: s) m Q) :
    G ro P N D w0 O ops (⟨some d, .pick (.tmp c) x y, ty, pos, af, none⟩ :: l) s m Q := G_settle hc ht hf
end
end Go.Proofs.Ytnncjfphdcfimaa
/- Slices as lists of Lean values: what is read, what is owned. -/
set_option linter.unusedVariables false
set_option linter.unusedSimpArgs false
namespace Go.Proofs.Ytnncjfphdcfimaa
open Go.RowKit


/-- A Lean type whose values are rows of one-cell values. -/
class Elt (α : Type) where
  sz : Nat
  enc : α → List Value
  val : α → Value
  cells : ∀ a, (val a).cells = (enc a).toArray
  len : ∀ a, (enc a).length = sz
  one : ∀ a c, c ∈ enc a → c.oneCell' = true
  pos : 0 < sz

section
variable {α : Type} [Elt α]
def encs (l : List α) : List Value := l.flatMap Elt.enc
@[simp] theorem encs_nil : encs ([] : List α) = [] := rfl
theorem encs_cons (a : α) (l : List α) : encs (a :: l) = Elt.enc a ++ encs l := by simp [encs]
@[simp] theorem encs_append (l l' : List α) : encs (l ++ l') = encs l ++ encs l' := by simp [encs]
theorem encs_length : ∀ (l : List α), (encs l).length = l.length * Elt.sz α
  | [] => by simp
  | a :: l => by rw [encs_cons, List.length_append, Elt.len, encs_length l, List.length_cons, Nat.add_mul, Nat.one_mul, Nat.add_comm]
theorem encs_one : ∀ (l : List α) (c : Value), c ∈ encs l → c.oneCell' = true := fun l c h => by
  obtain ⟨a, _, h2⟩ := List.mem_flatMap.1 h
  exact Elt.one a c h2
theorem encs_drop : ∀ (k : Nat) (l : List α), (encs l).drop (k * Elt.sz α) = encs (l.drop k)
  | 0, l => by simp
  | k + 1, [] => by simp
  | k + 1, a :: l => by
    rw [encs_cons, List.drop_succ_cons, ← encs_drop k l, Nat.add_mul, Nat.one_mul, Nat.add_comm, ← List.drop_drop]
    congr 1
    exact List.drop_left' (Elt.len a)
theorem encs_take : ∀ (k : Nat) (l : List α), (encs l).take (k * Elt.sz α) = encs (l.take k)
  | 0, l => by simp
  | k + 1, [] => by simp
  | k + 1, a :: l => by
    rw [encs_cons, List.take_succ_cons, encs_cons, ← encs_take k l, Nat.add_mul, Nat.one_mul, Nat.add_comm (k * Elt.sz α)]
    rw [List.take_append, Elt.len, List.take_of_length_le (by rw [Elt.len]; omega)]
    congr 2
    omega
theorem encs_get {l : List α} {j o : Nat} (hj : j < l.length) (ho : o < Elt.sz α) : (encs l)[j * Elt.sz α + o]? = (Elt.enc l[j])[o]? := by
  rw [← List.getElem?_drop, encs_drop, List.drop_eq_getElem_cons hj, encs_cons, List.getElem?_append_left (by rw [Elt.len]; exact ho)]
theorem enc_take (b : α) (l : List Value) (k : Nat) : (Elt.enc b ++ l).take (Elt.sz α + k) = Elt.enc b ++ l.take k := by
  rw [List.take_append, Elt.len, List.take_of_length_le (by rw [Elt.len]; omega), Nat.add_sub_cancel_left]
theorem enc_drop (b : α) (l : List Value) (k : Nat) : (Elt.enc b ++ l).drop (Elt.sz α + k) = l.drop k := by
  rw [List.drop_append, Elt.len, List.drop_of_length_le (by rw [Elt.len]; omega), Nat.add_sub_cancel_left, List.nil_append]
theorem encs_set : ∀ (l : List α) (j : Nat) (a : α), j < l.length → encs (l.set j a) = (encs l).take (j * Elt.sz α) ++ Elt.enc a ++ (encs l).drop (j * Elt.sz α + Elt.sz α)
  | [], j, a, h => by simp at h
  | b :: l, 0, a, h => by
    rw [List.set_cons_zero, encs_cons, encs_cons]
    simp only [Nat.zero_mul, List.take_zero, List.nil_append, Nat.zero_add]
    rw [List.drop_left' (Elt.len b)]
  | b :: l, j + 1, a, h => by
    have h' : j < l.length := by simpa using h
    rw [List.set_cons_succ, encs_cons, encs_cons, encs_set l j a h', Nat.add_mul, Nat.one_mul, Nat.add_comm (j * Elt.sz α), enc_take, Nat.add_assoc, enc_drop, Nat.add_comm (j * Elt.sz α)]
    simp [List.append_assoc]
end

/-- every value is one cell -/
class Scal (α : Type) [Elt α] : Prop where
  enc : ∀ a : α, Elt.enc a = [Elt.val a]
  sz : Elt.sz α = 1
/-- every value is a row of cells -/
class Aggr (α : Type) [Elt α] : Prop where
  val : ∀ a : α, Elt.val a = .agg (Elt.enc a).toArray

instance eltI : Elt Int where
  sz := 1
  enc n := [I n]
  val n := I n
  cells _ := rfl
  len _ := rfl
  one _ c h := by simp at h; subst h; rfl
  pos := by decide
instance : Scal Int := ⟨fun _ => rfl, rfl⟩
instance eltU : Elt (BitVec 64) where
  sz := 1
  enc n := [U n]
  val n := U n
  cells _ := rfl
  len _ := rfl
  one _ c h := by simp at h; subst h; rfl
  pos := by decide
instance : Scal (BitVec 64) := ⟨fun _ => rfl, rfl⟩
instance eltB : Elt (BitVec 8) where
  sz := 1
  enc n := [B8 n]
  val n := B8 n
  cells _ := rfl
  len _ := rfl
  one _ c h := by simp at h; subst h; rfl
  pos := by decide
instance : Scal (BitVec 8) := ⟨fun _ => rfl, rfl⟩
instance eltBool : Elt Bool where
  sz := 1
  enc n := [.bool n]
  val n := .bool n
  cells _ := rfl
  len _ := rfl
  one _ c h := by simp at h; subst h; rfl
  pos := by decide
instance : Scal Bool := ⟨fun _ => rfl, rfl⟩

/-- a's value, laid open -/
class ValR {α : Type} [Elt α] (a : α) (v : outParam Value) : Prop where
  eq : Elt.val a = v
instance valR_int (a : Int) : ValR a (I a) := ⟨rfl⟩
instance valR_u64 (a : BitVec 64) : ValR a (U a) := ⟨rfl⟩
instance valR_byte (a : BitVec 8) : ValR a (B8 a) := ⟨rfl⟩
instance valR_bool (a : Bool) : ValR a (.bool a) := ⟨rfl⟩

theorem encs_int (l : List Int) : encs l = l.map I := by induction l <;> simp_all [encs, Elt.enc]
theorem encs_byte (l : List (BitVec 8)) : encs l = l.map B8 := by induction l <;> simp_all [encs, Elt.enc]
theorem encs_u64 (l : List (BitVec 64)) : encs l = l.map U := by induction l <;> simp_all [encs, Elt.enc]

/-- The type t is laid as α. -/
class Lay (P : Program) (t : TypeId) (α : outParam Type) [i : outParam (Elt α)] : Prop where
  size : ∀ w, (sizeOf t).run P w = .ok (Elt.sz α) w
  load : ∀ w a (x : α), (∀ j u, (Elt.enc x)[j]? = some u → w.cell? (a.add j) = some u) → (Instr.loadAt t (.pointer (some a))).run P w = .ok (Elt.val x) w

theorem addr_zero (a : Addr) : a.add 0 = a := by simp [Addr.add]
theorem addr_addadd (a : Addr) (i j : Nat) : (a.add i).add j = a.add (i + j) := by
  unfold Addr.add
  by_cases h0 : i = 0
  · subst h0; simp
  · by_cases h1 : j = 0
    · subst h1; simp [h0]
    · have : ¬ i + j = 0 := by omega
      simp [h0, h1, this, Nat.add_assoc]

theorem Lay.scal {P : Program} {t : TypeId} {z : Value} {α : Type} [Elt α] [hS : Sc P t z] [hs : Scal α] : Lay P t α where
  size w := by rw [hs.sz]; exact run_sizeOf hS
  load w a x h := by
    have := h 0 (Elt.val x) (by rw [hs.enc]; rfl)
    rw [addr_zero] at this
    exact run_load1 hS this
theorem Lay.aggr {P : Program} {t : TypeId} {zs : List Value} {α : Type} [Elt α] [hS : Ag P t zs] [hs : Aggr α] (hz : zs.length = Elt.sz α) : Lay P t α where
  size w := by rw [← hz]; exact run_sizeOfA hS
  load w a x h := by
    rw [hs.val]
    exact run_loadA hS (by rw [Elt.len, hz]) h

/-! ### What a slice reads as -/
def RdL (w : World) (v : Value) {α : Type} [Elt α] (l : List α) : Prop := Rd w v (Elt.sz α) (encs l)

section
variable {α : Type} [Elt α]
/-- the place of the cell o behind a slice's begin -/
def elA (v : Value) (o : Nat) : Addr := match v with
  | .slice (some a) _ _ => a.add o
  | _ => ⟨0, 0, none⟩
/-- the place of an element -/
def elP (α : Type) [Elt α] (v : Value) (j : Nat) : Addr := elA v (j * Elt.sz α)
/-- v[lo:hi] -/
def cut (α : Type) [Elt α] (v : Value) (lo hi : Nat) : Value := match v with
  | .slice A n c => .slice (if c = lo then A else A.map (·.add (lo * Elt.sz α))) (hi - lo) (c - lo)
  | v => v

theorem RdL.form {w : World} {v : Value} {l : List α} (h : RdL w v l) : ∃ A c, v = .slice A l.length c ∧ l.length ≤ c ∧ c ≤ maxLen ∧ (0 < l.length → ∃ ad, A = some ad ∧ ∀ j o u, j < l.length → (h : j < l.length) → (Elt.enc l[j])[o]? = some u → w.cell? (ad.add (j * Elt.sz α + o)) = some u) := by
  obtain ⟨A, n, c, rfl, h1, h2, h3, h4⟩ := h
  have hn : l.length = n := by
    rw [encs_length] at h1
    exact Nat.eq_of_mul_eq_mul_right Elt.pos h1
  subst hn
  refine ⟨A, c, rfl, h2, h3, fun hp => ?_⟩
  obtain ⟨ad, rfl, h5⟩ := h4 (by rw [encs_length]; exact Nat.mul_pos hp Elt.pos)
  refine ⟨ad, rfl, fun j o u hj hj' hu => h5 _ u ?_⟩
  have ho : o < Elt.sz α := by
    have := (List.getElem?_eq_some_iff.1 hu).1
    rwa [Elt.len] at this
  rw [encs_get hj' ho]; exact hu

theorem RdL.cell {w : World} {v : Value} {l : List α} (h : RdL w v l) {j o : Nat} {u : Value} (hj : j < l.length) (hu : (Elt.enc l[j])[o]? = some u) : w.cell? ((elP α v j).add o) = some u := by
  obtain ⟨A, c, rfl, h1, h2, h3⟩ := h.form
  obtain ⟨ad, rfl, h4⟩ := h3 (by omega)
  have := h4 j o u hj hj hu
  simp only [elP, elA, addr_addadd]
  exact this

theorem RdL.nil (w : World) : RdL w (.slice none 0 0) ([] : List α) := rd_nil w _

theorem RdL.cut {w : World} {v : Value} {l : List α} (h : RdL w v l) {lo hi : Nat} (h1 : lo ≤ hi) (h2 : hi ≤ l.length) : RdL w (cut α v lo hi) ((l.drop lo).take (hi - lo)) := by
  obtain ⟨A, c, rfl, hc, hm, h3⟩ := h.form
  have hlen : ((l.drop lo).take (hi - lo)).length = hi - lo := by simp; omega
  refine ⟨_, _, _, rfl, by rw [encs_length, hlen], by omega, by omega, fun hp => ?_⟩
  rw [encs_length, hlen] at hp
  have hpos : 0 < hi - lo := Nat.pos_of_mul_pos_right hp
  obtain ⟨ad, rfl, h4⟩ := h3 (by omega)
  have hne : ¬ c = lo := by omega
  refine ⟨ad.add (lo * Elt.sz α), by simp [hne], fun j u hu => ?_⟩
  rw [addr_addadd]
  rw [← encs_take, ← encs_drop, List.getElem?_take] at hu
  split at hu
  · rw [List.getElem?_drop] at hu
    have hlt := (List.getElem?_eq_some_iff.1 hu).1
    rw [encs_length] at hlt
    obtain ⟨A', n', c', e, r1, r2, r3, r4⟩ := h
    cases e
    obtain ⟨ad', e, r5⟩ := r4 (by omega)
    cases e
    exact r5 _ u hu
  · cases hu

end
end Go.Proofs.Ytnncjfphdcfimaa
/- What is held, by classes: rows of Lean values; the rules of slices. -/
set_option linter.unusedVariables false
set_option linter.unusedSimpArgs false
namespace Go.Proofs.Ytnncjfphdcfimaa
open Go.RowKit

/-- a row of the call's own -/
def row {α : Type} [Elt α] (v : Value) (e : TypeId) (l : List α) : As := .own v e (Elt.sz α) l.length (encs l)
/-- .. that was just built -/
def lit {α : Type} [Elt α] (v : Value) (e : TypeId) (l : List α) : As := row v e l

theorem row_ok {α : Type} [Elt α] {v : Value} {e : TypeId} {l : List α} {w : World} (h : (row v e l).ok w) : w.ownsRow 0 e (Elt.sz α) v l.length (encs l) := h

/-! ### From one list of what is held to another -/
def Ent (m m' : List As) : Prop := ∀ (pre : List As) (w0 : World) (O : List Nat) (w : World), St w0 O (pre ++ m) w → St w0 O (pre ++ m') w

theorem Ent.refl (m : List As) : Ent m m := fun _ _ _ _ h => h
theorem Ent.trans {m m' m'' : List As} (h : Ent m m') (h' : Ent m' m'') : Ent m m'' := fun p w0 O w hw => h' p w0 O w (h p w0 O w hw)
theorem Ent.st {m m' : List As} (h : Ent m m') {w0 : World} {O : List Nat} {w : World} (hw : St w0 O m w) : St w0 O m' w := h [] w0 O w hw
theorem Ent.cons {m m' : List As} (x : As) (h : Ent m m') : Ent (x :: m) (x :: m') := fun p w0 O w hw => by
  have := h (p ++ [x]) w0 O w (by simpa using hw)
  simpa using this
theorem Ent.perm {m m' : List As} (h : List.Perm m m') : Ent m m' := fun p w0 O w hw => hw.perm (List.Perm.append_left p h)
theorem Ent.sub {m m' : List As} (h : List.Sublist m' m) : Ent m m' := fun p w0 O w hw => hw.drop (List.Sublist.append (List.Sublist.refl p) h)
theorem Ent.swap (x y : As) (m : List As) : Ent (x :: y :: m) (y :: x :: m) := Ent.perm (List.Perm.swap y x m)
theorem Ent.skip {m mk : List As} {x : As} (y : As) (h : Ent m (x :: mk)) : Ent (y :: m) (x :: y :: mk) := (h.cons y).trans (Ent.swap y x mk)
theorem Ent.tail (x : As) (m : List As) : Ent (x :: m) m := Ent.sub (List.sublist_cons_self x m)
theorem Ent.nil {α : Type} [Elt α] (e : TypeId) (m : List As) : Ent m (row (.slice none 0 0) e ([] : List α) :: m) := fun p w0 O w hw =>
  ⟨hw.os, hw.tape, hw.output, hw.size, hw.keep, fun x hx => by
    rcases List.mem_append.1 hx with hx | hx
    · exact hw.ok x (List.mem_append_left _ hx)
    · rcases List.mem_cons.1 hx with rfl | hx
      · exact World.ownsRow_nil w 0 e _
      · exact hw.ok x (List.mem_append_right _ hx), by
    have := hw.nodup
    simpa [List.flatMap_append, row, As.foot, Value.ownBlock] using this, fun b hb => hw.new b (by
    simpa [List.flatMap_append, row, As.foot, Value.ownBlock] using hb)⟩

/-- v is held as a row of the elements l. -/
class OwnR (v : Value) (m : List As) (e : TypeId) {α : Type} [Elt α] (l : outParam (List α)) (mk : outParam (List As)) : Prop where
  ent : Ent m (row v e l :: mk)
section
variable {α : Type} [Elt α] {v : Value} {e : TypeId} {l : List α} {m mk : List As}
instance (priority := high) ownR_here : OwnR v (row v e l :: m) e l m := ⟨Ent.refl _⟩
instance (priority := high) ownR_lit : OwnR v (lit v e l :: m) e l m := ⟨Ent.refl _⟩
instance (priority := high) ownR_nil : OwnR (.slice none 0 0) m e ([] : List α) m := ⟨Ent.nil e m⟩
instance (priority := low) ownR_there {x : As} [h : OwnR v m e l mk] : OwnR v (x :: m) e l (x :: mk) := ⟨h.ent.skip x⟩
end

/-- block b is held -/
class BoxR (b : Nat) (m : List As) (o : outParam Obj) (mk : outParam (List As)) : Prop where
  ent : Ent m (.box b o :: mk)
instance (priority := high) boxR_here {b : Nat} {o : Obj} {m : List As} : BoxR b (.box b o :: m) o m := ⟨Ent.refl _⟩
instance (priority := low) boxR_there {b : Nat} {o : Obj} {m mk : List As} {x : As} [h : BoxR b m o mk] : BoxR b (x :: m) o (x :: mk) := ⟨h.ent.skip x⟩

/-- what is held gives what is wanted -/
class SubM (m m' : List As) : Prop where
  ent : Ent m m'
instance subM_nil {m : List As} : SubM m [] := ⟨Ent.sub (List.nil_sublist m)⟩
instance (priority := high) subM_refl {m : List As} : SubM m m := ⟨Ent.refl m⟩
instance subM_row {α : Type} [Elt α] {v : Value} {e : TypeId} {l : List α} {m mk r : List As} [h : OwnR v m e l mk] [h' : SubM mk r] : SubM m (row v e l :: r) := ⟨h.ent.trans (h'.ent.cons _)⟩
instance subM_box {b : Nat} {o : Obj} {m mk r : List As} [h : BoxR b m o mk] [h' : SubM mk r] : SubM m (.box b o :: r) := ⟨h.ent.trans (h'.ent.cons _)⟩

instance (priority := low) subM_cons {x : As} {m r : List As} [h : SubM m r] : SubM (x :: m) (x :: r) := ⟨h.ent.cons x⟩
instance subM_app {m mf : List As} : SubM (m ++ mf) m := ⟨Ent.sub (List.sublist_append_left m mf)⟩
instance (priority := low) subM_skip {x : As} {m r : List As} [h : SubM m r] : SubM (x :: m) r := ⟨(Ent.tail x m).trans h.ent⟩

/-! ### What can be read -/
/-- It read so when the call began, and lies in no block of O. -/
class RdOld (w0 : World) (O : List Nat) (v : Value) {α : outParam Type} [i : outParam (Elt α)] (l : outParam (List α)) : Prop where
  old : RdO w0 O v (Elt.sz α) (encs l)
class RdR (w0 : World) (O : List Nat) (m : List As) (v : Value) {α : Type} [Elt α] (l : outParam (List α)) : Prop where
  rd : ∀ w, St w0 O m w → RdL w v l

section
variable {α : Type} [Elt α] {w0 : World} {O : List Nat} {m : List As} {v : Value} {e : TypeId} {l : List α}
theorem RdOld.of {w : World} (h : RdL w v l) : RdOld w [] v l := ⟨RdO.old h⟩
theorem RdOld.rd {w : World} {O : List Nat} (h : RdOld w O v l) : RdL w v l := h.old.rd
theorem RdL.len_le {w : World} (h : RdL w v l) : l.length ≤ 9223372036854775807 := by
  obtain ⟨A, c, _, h1, h2, _⟩ := h.form
  unfold maxLen at h2; omega
instance (priority := high) rdR_old [h : RdOld w0 O v l] : RdR w0 O m v l := ⟨fun w hw => h.old.now w hw⟩
instance (priority := high) rdR_here : RdR w0 O (row v e l :: m) v l := ⟨fun w hw => rd_own (row_ok (hw.ok _ (List.Mem.head _)))⟩
instance (priority := high) rdR_lit : RdR w0 O (lit v e l :: m) v l := ⟨fun w hw => rd_own (row_ok (hw.ok _ (List.Mem.head _)))⟩
instance (priority := high) rdR_nil : RdR w0 O m (.slice none 0 0) ([] : List α) := ⟨fun w _ => RdL.nil w⟩
instance (priority := low) rdR_there {x : As} [h : RdR w0 O m v l] : RdR w0 O (x :: m) v l := ⟨fun w hw => h.rd w (hw.drop (List.sublist_cons_self _ _))⟩
instance rdR_cut {lo hi : Nat} [h : RdR w0 O m v l] [hb : Fct (lo ≤ hi ∧ hi ≤ l.length)] : RdR w0 O m (cut α v lo hi) ((l.drop lo).take (hi - lo)) := ⟨fun w hw => (h.rd w hw).cut hb.out.1 hb.out.2⟩
end

/-! ### The rules -/
section
variable {ro : Option Nat} {P : Program} {N : Nat} {D : List Deferred} {w0 : World} {O : List Nat} {ops : Array Oper} {lo : List Oper} {s : List (Nat × Value)} {m : List As} {Q : Exit → Act → World → Prop}
variable {d : Nat} {ty : TypeId} {pos : String} {af : Array Edge} {α : Type} [Elt α]

theorem G_ent {m' : List As} (h : Ent m m') (k : G ro P N D w0 O ops lo s m' Q) : G ro P N D w0 O ops lo s m Q := fun a w hs hd hm => k a w hs hd (h.st hm)
theorem GC_ent {c : Code} {m' : List As} (h : Ent m m') (k : GC ro P N D w0 O c s m' Q) : GC ro P N D w0 O c s m Q := fun a w hs hd hm => k a w hs hd (h.st hm)
theorem At_ent {e : Exit} {m' : List As} (h : Ent m m') (k : At N D w0 O e s m' Q) : At N D w0 O e s m Q := fun a w hs hd hm => k a w hs hd (h.st hm)

theorem G_lenR {t e : TypeId} {x : Operand} {v : Value} {l : List α} [Und P t (.slice e)] [Lay P e α] (hx : ev s x = some v) (hN : Nat.blt d N = true) [h : RdR w0 O m v l] (k : G ro P N D w0 O ops lo ((d, I l.length) :: s) m Q) :
    G ro P N D w0 O ops (⟨some d, .call ⟨.builtin .len, #[x], #[t]⟩, ty, pos, af, none⟩ :: lo) s m Q := fun a w hs hd hm => by
  obtain ⟨A, c, rfl, _⟩ := (h.rd w hm).form
  exact G_len (e := e) hx hN k a w hs hd hm

theorem Lay.zs {e : TypeId} [h : Lay P e α] {zs : List Value} {bs : Nat} [hR : Rw P e zs bs] (w : World) : zs.length = Elt.sz α := by
  obtain ⟨i, z, h1, h2, h3, h4, h5⟩ := hR.info
  have := h.size w
  simp [sizeOf, typeInfo, h1, h3] at this
  exact this

/-- a ++ b in short -/
class AppN {α : Type} (a b : List α) (r : outParam (List α)) : Prop where
  eq : a ++ b = r
instance (priority := high) appN_nil {α : Type} {b : List α} : AppN [] b b := ⟨rfl⟩
instance (priority := high) appN_nil2 {α : Type} {a : List α} : AppN a [] a := ⟨List.append_nil a⟩
instance appN_cons {α : Type} {x : α} {a b r : List α} [h : AppN a b r] : AppN (x :: a) b (x :: r) := ⟨by rw [← h.eq]; rfl⟩
instance appN_assoc {α : Type} {a b c r : List α} [h : AppN b c r] : AppN (a ++ b) c (a ++ r) := ⟨by rw [List.append_assoc, h.eq]⟩
instance (priority := high) appN_take {α : Type} {l : List α} {k : Nat} (h : k < l.length) : AppN (l.take k) [l[k]'h] (l.take (k + 1)) := ⟨(List.take_succ_eq_append_getElem h).symm⟩
instance (priority := high) appN_takeMap {α β : Type} {l : List α} {f : α → β} {k : Nat} (h : k < l.length) : AppN ((l.take k).map f) [f (l[k]'h)] ((l.take (k + 1)).map f) := ⟨by rw [List.take_succ_eq_append_getElem h, List.map_append]; rfl⟩
instance (priority := high) appN_rep {α : Type} {a : α} {k : Nat} : AppN (List.replicate k a) [a] (List.replicate (k + 1) a) := ⟨List.replicate_succ'.symm⟩
instance (priority := low) appN_any {α : Type} {a b : List α} : AppN a b (a ++ b) := ⟨rfl⟩

/-- append(v, u...) -/
theorem G_appR {t e : TypeId} {zs : List Value} {bs : Nat} {x y : Operand} {v u : Value} {l l' r : List α} {mk : List As} [ht : Und P t (.slice e)] [hL : Lay P e α] [hR : Rw P e zs bs] (hx : ev s x = some v) (hy : ev s y = some u) (hN : Nat.blt d N = true)
    [ho : OwnR v m e l mk] [hu : RdR w0 O m u l'] [hn : AppN l l' r]
    (kk : ∀ v', G ro P N D w0 O ops lo ((d, v') :: s) (row v' e r :: mk) Q) (hb : (l.length + l'.length) * bs ≤ 140737488355328 := by first | omega | (simp only [List.length_append, List.length_cons, List.length_nil, List.length_map, List.length_take, List.length_drop, List.length_replicate, List.length_set, List.length_reverse, List.length_range]; omega)) :
    G ro P N D w0 O ops (⟨some d, .call ⟨.builtin .append, #[x, y], #[t, t]⟩, ty, pos, af, none⟩ :: lo) s m Q :=
  G_any (ι := Value) id (fun v' => row v' e (l ++ l') :: mk) (fun _ => True) rfl rfl (by simp) hN (fun a w hs hw0 => by
    obtain ⟨i, z, i1, i2, i3, i4, i5⟩ := hR.info
    have hz := Lay.zs (α := α) (e := e) (P := P) (zs := zs) (bs := bs) w
    rw [hz] at i3
    have hw := ho.ent.st hw0
    have hown : w.ownsRow 0 e (Elt.sz α) v l.length (encs l) := row_ok (hw.ok _ (List.Mem.head _))
    obtain ⟨A, c, rfl, r2, r3, _⟩ := (hu.rd w hw0).form
    obtain ⟨A', q, c', e', r1, _, _, r4⟩ := hu.rd w hw0
    cases e'
    have hbp := hR.bpos
    have hmax : l.length + l'.length ≤ maxLen := by
      have := Nat.le_mul_of_pos_right (l.length + l'.length) hR.bpos
      simp only [maxLen]
      omega
    have key : ∃ v' w', (Builtin.append_ #[t, t] ty #[v, .slice A l'.length c]).run P w = .ok v' w' ∧ w'.ownsRow 0 e (Elt.sz α) v' (l.length + l'.length) (encs l ++ encs l') ∧ w.grownBy w' v.ownBlock ∧ (v'.ownBlock = v.ownBlock ∨ v'.ownBlock = some w.heap.size) := by
      by_cases h0 : 0 < (encs l').length
      · obtain ⟨ad, rfl, r5⟩ := r4 h0
        obtain ⟨v', w', g1, g2, g3, _, g5⟩ := run_append_own_at (P := P) w 0 t ty e i z (Elt.sz α) bs ht.eq i1 i2 i3 i4 (by rw [i5]; simpa using hz) Elt.pos v l.length (encs l) hown ad l'.length c (encs l') r1 r5 (encs_one l') hmax hb (Nat.zero_le _)
        exact ⟨v', w', g1, g2, g3, g5⟩
      · have hl0 : l' = [] := by
          rw [encs_length] at h0
          have := Nat.pos_of_ne_zero (n := l'.length * Elt.sz α)
          rcases Nat.eq_zero_or_pos l'.length with h | h
          · exact List.eq_nil_of_length_eq_zero h
          · exact absurd (Nat.mul_pos h Elt.pos) h0
        subst hl0
        obtain ⟨A', c', rfl, hle⟩ := own_le hown
        have hsrc : Src P i.size t (.slice A 0 c) 0 [] w := by
          cases A with
          | none => exact Src.ofNil w ht.eq c
          | some ad => exact Src.ofSlice w ht.eq ad 0 c [] (by simp) (by simp) (by simp)
        refine ⟨_, w, run_append_nothing w t t ty e i ht.eq i1 A' l.length c' hle _ hsrc, ?_, ⟨rfl, rfl, rfl, Nat.le_refl _, fun _ _ _ => rfl⟩, .inl rfl⟩
        simpa using hown
    obtain ⟨v', w', g1, g2, g3, g4⟩ := key
    have he : row v' e (l ++ l') = .own v' e (Elt.sz α) (l.length + l'.length) (encs l ++ encs l') := by simp [row]
    refine ⟨v', w', trivial, ?_, by rw [he]; exact hw.append Take.here g2 g3 g4⟩
    simp [execOp, resolve, invoke, builtin, hs.ev hx, hs.ev hy, g1]) (fun v' _ => by rw [hn.eq]; exact kk v')

/-- append(v, a, ..): the elements were built for it alone -/
theorem G_appLit {t e : TypeId} {zs : List Value} {bs : Nat} {x y : Operand} {v u : Value} {l l' r : List α} {m1 mk : List As} [ht : Und P t (.slice e)] [hL : Lay P e α] [hR : Rw P e zs bs] (hx : ev s x = some v) (hy : ev s y = some u) (hN : Nat.blt d N = true)
    [ho : OwnR v m1 e l mk] [hn : AppN l l' r]
    (kk : ∀ v', G ro P N D w0 O ops lo ((d, v') :: s) (row v' e r :: mk) Q) (hb : (l.length + l'.length) * bs ≤ 140737488355328 := by first | omega | (simp only [List.length_append, List.length_cons, List.length_nil, List.length_map, List.length_take, List.length_drop, List.length_replicate, List.length_set, List.length_reverse, List.length_range]; omega)) :
    G ro P N D w0 O ops (⟨some d, .call ⟨.builtin .append, #[x, y], #[t, t]⟩, ty, pos, af, none⟩ :: lo) s (lit u e l' :: m1) Q :=
  G_appR (l := l) (l' := l') (mk := lit u e l' :: mk) hx hy hN (ho := ⟨ho.ent.skip _⟩) (fun v' => G_ent ((Ent.tail _ _).cons _) (kk v')) hb

/-! elements out of values -/
class DecE (α : Type) [Elt α] (v : Value) (a : outParam α) (side : outParam Prop) : Prop where
  eq : side → v = Elt.val a
class DecL (α : Type) [Elt α] (vs : List Value) (l : outParam (List α)) (side : outParam Prop) : Prop where
  eq : side → vs = l.map Elt.val
instance decL_nil : DecL α [] [] True := ⟨fun _ => rfl⟩
instance decL_one {v : Value} {a : α} {p : Prop} [h : DecE α v a p] : DecL α [v] [a] p := ⟨fun hp => by rw [h.eq hp]; rfl⟩
instance (priority := low) decL_cons {v : Value} {vs : List Value} {a : α} {l : List α} {p q : Prop} [h : DecE α v a p] [h' : DecL α vs l q] : DecL α (v :: vs) (a :: l) (p ∧ q) := ⟨fun hp => by rw [h.eq hp.1, h'.eq hp.2]; rfl⟩
class Tr (b : Bool) : Prop where
  eq : b = true
instance : Tr true := ⟨rfl⟩
instance decE_int (n : Int) : DecE Int (I n) n True := ⟨fun _ => rfl⟩
instance decE_u64 (x : BitVec 64) : DecE (BitVec 64) (.int .u64 (x.toNat : Int)) x True := ⟨fun _ => rfl⟩
instance decE_byte (x : BitVec 8) : DecE (BitVec 8) (.int .u8 (x.toNat : Int)) x True := ⟨fun _ => rfl⟩
instance decE_bool (x : Bool) : DecE Bool (.bool x) x True := ⟨fun _ => rfl⟩
instance decE_byteLit (n : Nat) : DecE (BitVec 8) (.int .u8 (no_index (OfNat.ofNat n))) (BitVec.ofNat 8 (OfNat.ofNat n)) (n ≤ 255) := ⟨fun h => by
  show Value.int .u8 ((n : Nat) : Int) = Value.int .u8 ((BitVec.ofNat 8 n).toNat : Int)
  rw [BitVec.toNat_ofNat, Nat.mod_eq_of_lt (by omega)]⟩

theorem flat_vals : ∀ l : List α, ((l.map Elt.val).flatMap fun v => v.cells.toList) = encs l
  | [] => rfl
  | b :: r => by rw [List.map_cons, List.flatMap_cons, flat_vals r, Elt.cells, encs_cons]
/-- a slice's literal -/
theorem G_litE {t e : TypeId} {zs : List Value} {bs : Nat} {n : Nat} {parts : Array (Nat × Operand)} {vals : List Value} {l : List α} [ht : Und P t (.slice e)] [hL : Lay P e α] [hR : Rw P e zs bs]
    (hv : evs s (parts.toList.map (·.2)) = some vals) (hi : parts.toList.map (·.1) = List.range n) (hn : Nat.beq parts.size n = true) (hsz : Nat.ble (n * zs.length) 10000 = true) (hN : Nat.blt d N = true) (hl : vals = l.map Elt.val)
    (k : ∀ v, G ro P N D w0 O ops lo ((d, v) :: s) (lit v e l :: m) Q) :
    G ro P N D w0 O ops (⟨some d, .buildSlice t n parts, ty, pos, af, none⟩ :: lo) s m Q :=
  G_any (ι := Value) id (fun v => lit v e l :: m) (fun _ => True) rfl rfl (by simp) hN
    (fun a w hs hm => by
      obtain ⟨i, z, i1, i2, i3, i4, i5⟩ := hR.info
      have hz := Lay.zs (α := α) (e := e) (P := P) (zs := zs) (bs := bs) w
      have hps : parts.size = n := Nat.eq_of_beq_eq_true hn
      have hvl : vals.length = n := by
        have := congrArg List.length (evs_map hs hv)
        simp at this; omega
      have hll : l.length = n := by rw [← hvl, hl]; simp
      have hp : (parts.toList.map fun x => (x.1, a.eval x.2)) = (vals.zipIdx 0).map fun x => (x.2, x.1) := by
        have h1 : (parts.toList.map fun x => (x.1, a.eval x.2)) = (List.range n).zip vals := by
          rw [← hi, ← evs_map hs hv]
          generalize parts.toList = ps
          induction ps with
          | nil => rfl
          | cons x r ih => simp [ih]
        rw [h1]
        apply List.ext_getElem?
        intro j
        simp [List.getElem?_map, List.getElem?_zip_eq_some, List.zip, List.getElem?_zipWith]
        by_cases hj : j < n
        · simp [hj, hvl, List.getElem?_eq_getElem (show j < vals.length by omega)]
        · simp [hj, List.getElem?_eq_none (show vals.length ≤ j by omega)]
      have hcs : ∀ v ∈ vals, v.cells.size = Elt.sz α := by
        intro v hv'
        rw [hl] at hv'
        obtain ⟨b, _, rfl⟩ := List.mem_map.1 hv'
        rw [Elt.cells]; simp [Elt.len]
      have hflat : (vals.flatMap fun v => v.cells.toList) = encs l := by
        rw [hl, flat_vals]
      have hle : n * Elt.sz α ≤ 10000 := by rw [← hz]; exact Nat.le_of_ble_eq_true hsz
      have hlim : ¬ 2 ^ 24 < n * Elt.sz α := by
        have : (10000 : Nat) ≤ 2 ^ 24 := by decide
        omega
      generalize hL2 : (2 : Nat) ^ 24 = L at hlim
      have hfill : ∀ cs : Array Value, cs.size = n * Elt.sz α → Instr.fill (fun i => some (i * Elt.sz α, Elt.sz α)) cs (parts.toList.map fun x => (x.1, a.eval x.2)) = some (encs l).toArray := fun cs hc => by
        rw [hp, Great.fill_whole Elt.pos vals cs hcs (by rw [hvl, hc]), hflat]
      have hown : ∀ w1 : World, w1 = w.alloc (.cells (encs l).toArray e) → St w0 O (lit (.slice (some ⟨w.heap.size, 0, none⟩) n n) e l :: m) w1 := fun w1 hw1 => by
        subst hw1
        refine hm.grow (m' := [lit (.slice (some ⟨w.heap.size, 0, none⟩) n n) e l]) ⟨rfl, rfl, rfl, by simp, fun k hk _ => Below.heap_alloc w _ k hk, fun x hx => ?_, by simp [lit, row, As.foot, Value.ownBlock], fun b hb => ?_⟩
        · simp only [List.mem_singleton] at hx
          subst hx
          have hle1 : n ≤ n * Elt.sz α := Nat.le_mul_of_pos_right _ Elt.pos
          exact ⟨by rw [encs_length], .inr ⟨w.heap.size, n, (encs l).toArray, by rw [hll], Nat.zero_le _, heap_alloc_new w _, by omega, by simp only [maxLen]; omega, by simp [encs_length, hll], by rw [hll, ← hll, ← encs_length]; simp⟩⟩
        · simp [lit, row, As.foot, Value.ownBlock] at hb
          subst hb
          exact .inl (Nat.le_refl _)
      refine ⟨.slice (some ⟨w.heap.size, 0, none⟩) n n, _, trivial, ?_, hown _ rfl⟩
      have hsize : (sizeOf e).run P w = .ok (Elt.sz α) w := hL.size w
      by_cases h0 : n * Elt.sz α = 0
      · have := hfill #[] (by simp [h0])
        have hr0 : Array.range 0 = #[] := by apply Array.ext'; simp
        simp [execOp, Instr.buildSlice, run_underlying ht.eq, hsize, hL2, hlim, h0, hr0, newRow, this]
      · have hzv : (zeroValue e).run P w = .ok z w := by simp [zeroValue, typeInfo, i1, i2]
        have := hfill ((Array.range (n * Elt.sz α)).map (z.cells[· % z.cells.size]!)) (by simp)
        simp [execOp, Instr.buildSlice, run_underlying ht.eq, hsize, hL2, hlim, h0, hzv, newRow, this]) (fun v _ => k v)

theorem G_litR {t e : TypeId} {zs : List Value} {bs : Nat} {n : Nat} {parts : Array (Nat × Operand)} {vals : List Value} {l : List α} [ht : Und P t (.slice e)] [hL : Lay P e α] [hR : Rw P e zs bs]
    (hv : evs s (parts.toList.map (·.2)) = some vals) (hi : parts.toList.map (·.1) = List.range n) (hn : Nat.beq parts.size n = true) (hsz : Nat.ble (n * zs.length) 10000 = true) (hN : Nat.blt d N = true) {side : Prop} [hl0 : DecL α vals l side]
    (k : ∀ v, G ro P N D w0 O ops lo ((d, v) :: s) (lit v e l :: m) Q) (hsd : side := by first | exact trivial | decide | omega) :
    G ro P N D w0 O ops (⟨some d, .buildSlice t n parts, ty, pos, af, none⟩ :: lo) s m Q :=
  G_litE hv hi hn hsz hN (hl0.eq hsd) k

/-- the zero value of a type's elements -/
class ZeroE (α : Type) [Elt α] (zs : List Value) (z : outParam α) : Prop where
  eq : Elt.enc z = zs
instance zeroE_int : ZeroE Int [.int .i64 0] 0 := ⟨rfl⟩
instance zeroE_u64 : ZeroE (BitVec 64) [.int .u64 0] 0#64 := ⟨rfl⟩
instance zeroE_byte : ZeroE (BitVec 8) [.int .u8 0] 0#8 := ⟨rfl⟩
instance zeroE_bool : ZeroE Bool [.bool false] false := ⟨rfl⟩
theorem made_rep {zs : List Value} {z0 : α} [hz : ZeroE α zs z0] (n : Nat) : (madeCells zs.toArray (n * Elt.sz α)).toList = encs (List.replicate n z0) := by
  have hl : zs.length = Elt.sz α := by rw [← hz.eq, Elt.len]
  have hp := Elt.pos (α := α)
  apply List.ext_getElem
  · simp [madeCells, encs_length]
  · intro k h1 h2
    rw [encs_length, List.length_replicate] at h2
    have hj : k / Elt.sz α < n := (Nat.div_lt_iff_lt_mul hp).2 h2
    have ho : k % Elt.sz α < Elt.sz α := Nat.mod_lt _ hp
    have e1 := encs_get (l := List.replicate n z0) (j := k / Elt.sz α) (o := k % Elt.sz α) (by simpa using hj) ho
    rw [Nat.mul_comm, Nat.div_add_mod] at e1
    have e2 : (encs (List.replicate n z0))[k]? = some (zs[k % Elt.sz α]'(by rw [hl]; exact ho)) := by
      rw [e1]
      simp only [List.getElem_replicate, hz.eq]
      exact List.getElem?_eq_getElem _
    have e3 := (List.getElem?_eq_some_iff.1 e2).2
    rw [e3]
    have hlt : k % Elt.sz α < zs.length := by rw [hl]; exact ho
    simp [madeCells, hl, List.getElem?_eq_getElem hlt]
/-- make([]T, n) -/
theorem G_makeR {t e : TypeId} {zs : List Value} {bs : Nat} {x y : Operand} {kx ky : IntKind} {i : Int} {n : Nat} {sd : Prop} {z0 : α} [ht : Und P t (.slice e)] [hL : Lay P e α] [hR : Rw P e zs bs] [hz : ZeroE α zs z0] (hx : ev s x = some (.int kx i)) (hy : ev s y = some (.int ky i)) (hN : Nat.blt d N = true) [hn : NatR i n sd]
    (k : ∀ v, G ro P N D w0 O ops lo ((d, v) :: s) (row v e (List.replicate n z0) :: m) Q) (hs : sd ∧ n * bs ≤ 140737488355328 := by first | exact trivial | omega | (simp only [true_and, and_true, and_self]; omega) | exact ⟨trivial, rfl⟩ | exact ⟨rfl, rfl, by decide⟩ | rfl | (simp only [true_and, and_true, and_self]; done) | decide | assumption | exact ⟨by assumption, by omega⟩ | exact ⟨by assumption, by assumption⟩ | exact ⟨by assumption, by assumption, by omega⟩) :
    G ro P N D w0 O ops (⟨some d, .makeSlice t x y, ty, pos, af, none⟩ :: lo) s m Q :=
  G_any (ι := Value) id (fun v => row v e (List.replicate n z0) :: m) (fun _ => True) rfl rfl (by simp) hN (fun a w hs' hm => by
    obtain ⟨i', z, i1, i2, i3, i4, i5⟩ := hR.info
    have hzl := Lay.zs (α := α) (e := e) (P := P) (zs := zs) (bs := bs) w
    have e1 := hn.eq hs.1
    subst e1
    have hmul : n ≤ n * bs := Nat.le_mul_of_pos_right _ hR.bpos
    obtain ⟨w', h1, h2, h3⟩ := run_make_full (P := P) w 0 t e i' z (Elt.sz α) ht.eq i1 i2 (by rw [i3, hzl]) kx ky n (by rw [i4, Nat.mul_comm]; omega) (by simp only [maxLen]; omega) (Nat.zero_le _)
    rw [i5, made_rep (z0 := z0) n] at h2
    refine ⟨.slice (some ⟨w.heap.size, 0, none⟩) n n, w', trivial, by simp [execOp, hs'.ev hx, hs'.ev hy, h1], ?_⟩
    have e2 : row (.slice (some ⟨w.heap.size, 0, none⟩) n n) e (List.replicate n z0) = .own (.slice (some ⟨w.heap.size, 0, none⟩) n n) e (Elt.sz α) n (encs (List.replicate n z0)) := by simp [row]
    rw [e2]
    refine hm.grow (m' := [_]) ⟨h3.os, h3.tape, h3.output, h3.size, fun k hk _ => h3.block k hk (by simp), fun x hx => ?_, by simp [As.foot, Value.ownBlock], fun b hb => ?_⟩
    · simp only [List.mem_singleton] at hx
      subst hx
      exact h2
    · simp [As.foot, Value.ownBlock] at hb
      subst hb
      exact .inl (Nat.le_refl _)) (fun v _ => k v)

/-- the place of an element -/
theorem G_idxR {t e : TypeId} {x y : Operand} {v : Value} {kx : IntKind} {i : Int} {j : Nat} {sd : Prop} {l : List α} [ht : Und P t (.slice e)] [hL : Lay P e α] (hx : ev s x = some v) (hy : ev s y = some (.int kx i)) (hN : Nat.blt d N = true)
    [h : RdR w0 O m v l] [hj : NatR i j sd] (k : [Fct (j < l.length)] → G ro P N D w0 O ops lo ((d, .pointer (some (elP α v j))) :: s) m Q) (hs : sd ∧ j < l.length := by first | exact trivial | omega | (simp only [true_and, and_true, and_self]; omega) | exact ⟨trivial, rfl⟩ | exact ⟨rfl, rfl, by decide⟩ | rfl | (simp only [true_and, and_true, and_self]; done) | decide | assumption | exact ⟨by assumption, by omega⟩ | exact ⟨by assumption, by assumption⟩ | exact ⟨by assumption, by assumption, by omega⟩) :
    G ro P N D w0 O ops (⟨some d, .indexAddr t x y, ty, pos, af, none⟩ :: lo) s m Q :=
  G_val _ rfl rfl (by simp) hN (fun a w hs' hm => by
    obtain ⟨A, c, rfl, h1, h2, h3⟩ := (h.rd w hm).form
    obtain ⟨ad, rfl, _⟩ := h3 (by omega)
    have e1 := hj.eq hs.1
    subst e1
    have hjn : (j : Int) < (l.length : Int) := by omega
    have hj0 : (0 : Int) ≤ (j : Int) := by omega
    simp only [execOp, Instr.indexAt, hs'.ev hx, hs'.ev hy, asIntOf, run_underlying ht.eq, hL.size, Sem.run_bind, Sem.run_pure, Result.andThen, hjn, hj0, and_self, if_true, Int.toNat_natCast, elP, elA]) (@k ⟨hs.2⟩)

/-- what a place holds -/
class LdR (P : Program) (w0 : World) (O : List Nat) (m : List As) (t : TypeId) (a : Addr) (r : outParam Value) : Prop where
  ld : ∀ w, St w0 O m w → (Instr.loadAt t (.pointer (some a))).run P w = .ok r w
instance ldR_elem {t : TypeId} {v : Value} {j : Nat} {l : List α} [hL : Lay P t α] [h : RdR w0 O m v l] [hj : Fct (j < l.length)] {u : Value} [hv : ValR (l[j]'hj.out) u] : LdR P w0 O m t (elP α v j) u := ⟨fun w hw => by
  rw [← hv.eq]
  exact hL.load w _ _ fun o u hu => (h.rd w hw).cell hj.out hu⟩
instance (priority := high) ldR_single {t : TypeId} {v : Value} {x : α} [hL : Lay P t α] [h : RdR w0 O m v [x]] {u : Value} [hv : ValR x u] : LdR P w0 O m t (elP α v 0) u := ⟨fun w hw => by
  rw [← hv.eq]
  exact hL.load w _ _ fun o u hu => (h.rd w hw).cell (j := 0) (by simp) hu⟩
/-- a part of a value, that lies at a place -/
class FldE (α : Type) [Elt α] (off : Nat) (β : outParam Type) [i : outParam (Elt β)] (f : outParam (α → β)) : Prop where
  eq : ∀ a : α, ((Elt.enc a).drop off).take (Elt.sz β) = Elt.enc (f a)
instance ldR_field {t : TypeId} {v : Value} {j off : Nat} {l : List α} {β : Type} [Elt β] {f : α → β} [h : RdR w0 O m v l] [hj : Fct (j < l.length)] [hf : FldE α off β f] [hL : Lay P t β] {u' : Value} [hv : ValR (f (l[j]'hj.out)) u'] : LdR P w0 O m t ((elP α v j).add off) u' := ⟨fun w hw => by
  rw [← hv.eq]
  refine hL.load w _ _ fun o u hu => ?_
  rw [addr_addadd]
  refine (h.rd w hw).cell hj.out ?_
  rw [← hf.eq, List.getElem?_take] at hu
  split at hu
  · rw [List.getElem?_drop] at hu; exact hu
  · cases hu⟩

theorem G_ldR {t : TypeId} {x : Operand} {a : Addr} {r : Value} (hx : ev s x = some (.pointer (some a))) (hN : Nat.blt d N = true) [h : LdR P w0 O m t a r] (k : G ro P N D w0 O ops lo ((d, r) :: s) m Q) :
    G ro P N D w0 O ops (⟨some d, .load t x, ty, pos, af, none⟩ :: lo) s m Q :=
  G_val _ rfl rfl (by simp) hN (fun a' w hs hm => by simp [execOp, hs.ev hx, h.ld w hm]) k

/-- an element is written -/
theorem G_stR {t : TypeId} {z u : Value} {x y : Operand} {v : Value} {j : Nat} {l : List α} {a : α} {mk : List As} [hL : Lay P t α] [hsc : Scal α] [hS : Sc P t z] (hx : ev s x = some (.pointer (some (elP α v j)))) (hy : ev s y = some u)
    [ho : OwnR v m t l mk] [hj : Fct (j < l.length)] {side : Prop} [hd0 : DecE α u a side] (k : G ro P N D w0 O ops lo s (row v t (l.set j a) :: mk) Q) (hsd : side := by first | exact trivial | decide | omega) : G ro P N D w0 O ops (⟨none, .store t x y, ty, pos, af, none⟩ :: lo) s m Q :=
  G_ent ho.ent (by
    have hlt := hj.out
    have hd := hd0.eq hsd
    refine G_unown (e := t) (v := v) (n := l.length) (sz := Elt.sz α) (xs := encs l) Take.here (by omega) fun g cap cur ev' hcap hmax hcur htk => ?_
    subst ev'
    have h1 : Elt.sz α = 1 := hsc.sz
    rw [h1, Nat.mul_one] at htk hcur
    have hun : u.oneCell' = true := by rw [hd]; exact Elt.one a _ (by rw [hsc.enc]; simp)
    have hll : (encs l).length = l.length := by rw [encs_length, h1, Nat.mul_one]
    have e1 : elP α (.slice (some ⟨g, 0, none⟩) l.length cap) j = ⟨g, j, none⟩ := by
      simp only [elP, elA, addr_add, h1, Nat.mul_one, Nat.zero_add]
    rw [e1] at hx
    refine G_store (b := g) (off := j) (cs := cur) (e := t) hx hy hun (take_cell htk (by omega)) rfl ?_
    refine G_reown (n := l.length) (cap := cap) (sz := 1) Take.here hcap hmax (by simpa using hcur) ?_
    rw [Nat.mul_one, Array.toList_setIfInBounds, List.take_set, htk]
    have e2 : As.own (.slice (some ⟨g, 0, none⟩) l.length cap) t 1 l.length ((encs l).set j u) = row (.slice (some ⟨g, 0, none⟩) l.length cap) t (l.set j a) := by
      unfold row
      rw [h1, List.length_set]
      congr 1
      rw [encs_set l j a hlt, h1, hsc.enc, ← hd, Nat.mul_one, List.set_eq_take_append_cons_drop, if_pos (by omega)]
      simp
    rw [e2]
    exact k)

/-- v[lo:hi] -/
theorem run_cutR {t e : TypeId} {x : Operand} {v : Value} {l : List α} {lo? hi? : Option Operand} {a b : Nat} [ht : Und P t (.slice e)] [hL : Lay P e α] (hx : ev s x = some v)
    (hl : (∃ o i sd, lo? = some o ∧ ev s o = some (I i) ∧ ∃ _ : NatR i a sd, sd) ∨ (lo? = none ∧ a = 0)) (hh : (∃ o i sd, hi? = some o ∧ ev s o = some (I i) ∧ ∃ _ : NatR i b sd, sd) ∨ (hi? = none ∧ b = l.length)) (hs : a ≤ b ∧ b ≤ l.length)
    {ac : Act} {w1 : World} (hs' : Has N s ac) (hv : RdL w1 v l) (w : World) : (execOp ac.eval ⟨some d, .slice t x lo? hi? none, ty, pos, af, none⟩).run P w = .ok (.value (cut α v a b)) w := by
  obtain ⟨A, c, rfl, hc, _⟩ := hv.form
  have b1 : ∀ (k : Nat) (hk : b ≤ k) (cd : BoundsCode), (Instr.sliceBound (I b) k cd).run P w = .ok b w := fun k hk cd => by
    have : (0 : Int) ≤ (b : Int) ∧ (b : Int) ≤ (k : Int) := by omega
    simp only [Instr.sliceBound, asIntOf, Sem.run_bind, Sem.run_pure, Result.andThen, if_pos this, Int.toNat_natCast]
  have b2 : ∀ (cd : BoundsCode), (Instr.sliceBound (I a) b cd).run P w = .ok a w := fun cd => by
    have : (0 : Int) ≤ (a : Int) ∧ (a : Int) ≤ (b : Int) := by omega
    simp only [Instr.sliceBound, asIntOf, Sem.run_bind, Sem.run_pure, Result.andThen, if_pos this, Int.toNat_natCast]
  have b3 : (Instr.sliceBounds true l.length c (lo?.map ac.eval) (hi?.map ac.eval) none).run P w = .ok (a, b, c) w := by
    have hh' : hi?.map ac.eval = some (I b) ∨ (hi?.map ac.eval = none ∧ b = l.length) := by
      rcases hh with ⟨o, i, sd, rfl, h1, hn, h2⟩ | ⟨rfl, h⟩
      · left; simp [hs'.ev h1, hn.eq h2]
      · right; exact ⟨rfl, h⟩
    have hl' : lo?.map ac.eval = some (I a) ∨ (lo?.map ac.eval = none ∧ a = 0) := by
      rcases hl with ⟨o, i, sd, rfl, h1, hn, h2⟩ | ⟨rfl, h⟩
      · left; simp [hs'.ev h1, hn.eq h2]
      · right; exact ⟨rfl, h⟩
    rcases hl' with hl' | ⟨hl', rfl⟩ <;> rcases hh' with hh' | ⟨hh', rfl⟩ <;> rw [hl', hh'] <;> simp [Instr.sliceBounds, b1 c (by omega), b2]
  simp only [execOp, hs'.ev hx, Option.map_none, Instr.sliceAt, Instr.slice, Sem.run_bind, run_underlying ht.eq, Result.andThen, b3, hL.size, Sem.run_pure, cut]

theorem G_cutR {t e : TypeId} {x : Operand} {v : Value} {l : List α} (lo? hi? : Option Operand) (a b : Nat) [ht : Und P t (.slice e)] [hL : Lay P e α] (hx : ev s x = some v) (hN : Nat.blt d N = true) [h : RdR w0 O m v l]
    (hl : (∃ o i sd, lo? = some o ∧ ev s o = some (I i) ∧ ∃ _ : NatR i a sd, sd) ∨ (lo? = none ∧ a = 0)) (hh : (∃ o i sd, hi? = some o ∧ ev s o = some (I i) ∧ ∃ _ : NatR i b sd, sd) ∨ (hi? = none ∧ b = l.length)) (hs : a ≤ b ∧ b ≤ l.length)
    (k : [Fct (a ≤ b ∧ b ≤ l.length)] → G ro P N D w0 O ops lo ((d, cut α v a b) :: s) m Q) :
    G ro P N D w0 O ops (⟨some d, .slice t x lo? hi? none, ty, pos, af, none⟩ :: lo) s m Q :=
  G_val _ rfl rfl (by simp) hN (fun ac w hs' hm => run_cutR hx hl hh hs hs' (h.rd w hm) w) (@k ⟨hs⟩)

theorem G_cutLo {t e : TypeId} {x y : Operand} {v : Value} {l : List α} {i : Int} {a : Nat} {sd : Prop} [ht : Und P t (.slice e)] [hL : Lay P e α] (hx : ev s x = some v) (hy : ev s y = some (I i)) (hN : Nat.blt d N = true) [h : RdR w0 O m v l] [hn : NatR i a sd]
    (k : [Fct (a ≤ l.length ∧ l.length ≤ l.length)] → G ro P N D w0 O ops lo ((d, cut α v a l.length) :: s) m Q) (hs : sd ∧ a ≤ l.length := by first | exact trivial | omega | (simp only [true_and, and_true, and_self]; omega) | exact ⟨trivial, rfl⟩ | exact ⟨rfl, rfl, by decide⟩ | rfl | (simp only [true_and, and_true, and_self]; done) | decide | assumption | exact ⟨by assumption, by omega⟩ | exact ⟨by assumption, by assumption⟩ | exact ⟨by assumption, by assumption, by omega⟩) :
    G ro P N D w0 O ops (⟨some d, .slice t x (some y) none none, ty, pos, af, none⟩ :: lo) s m Q :=
  G_cutR (some y) none a l.length hx hN (.inl ⟨y, i, sd, rfl, hy, hn, hs.1⟩) (.inr ⟨rfl, rfl⟩) ⟨hs.2, Nat.le_refl _⟩ k
theorem G_cutHi {t e : TypeId} {x y : Operand} {v : Value} {l : List α} {i : Int} {b : Nat} {sd : Prop} [ht : Und P t (.slice e)] [hL : Lay P e α] (hx : ev s x = some v) (hy : ev s y = some (I i)) (hN : Nat.blt d N = true) [h : RdR w0 O m v l] [hn : NatR i b sd]
    (k : [Fct (0 ≤ b ∧ b ≤ l.length)] → G ro P N D w0 O ops lo ((d, cut α v 0 b) :: s) m Q) (hs : sd ∧ b ≤ l.length := by first | exact trivial | omega | (simp only [true_and, and_true, and_self]; omega) | exact ⟨trivial, rfl⟩ | exact ⟨rfl, rfl, by decide⟩ | rfl | (simp only [true_and, and_true, and_self]; done) | decide | assumption | exact ⟨by assumption, by omega⟩ | exact ⟨by assumption, by assumption⟩ | exact ⟨by assumption, by assumption, by omega⟩) :
    G ro P N D w0 O ops (⟨some d, .slice t x none (some y) none, ty, pos, af, none⟩ :: lo) s m Q :=
  G_cutR none (some y) 0 b hx hN (.inr ⟨rfl, rfl⟩) (.inl ⟨y, i, sd, rfl, hy, hn, hs.1⟩) ⟨Nat.zero_le _, hs.2⟩ k
theorem G_cutBoth {t e : TypeId} {x y z : Operand} {v : Value} {l : List α} {i i' : Int} {a b : Nat} {sd sd' : Prop} [ht : Und P t (.slice e)] [hL : Lay P e α] (hx : ev s x = some v) (hy : ev s y = some (I i)) (hz : ev s z = some (I i')) (hN : Nat.blt d N = true) [h : RdR w0 O m v l] [hn : NatR i a sd] [hn' : NatR i' b sd']
    (k : [Fct (a ≤ b ∧ b ≤ l.length)] → G ro P N D w0 O ops lo ((d, cut α v a b) :: s) m Q) (hs : (sd ∧ sd') ∧ a ≤ b ∧ b ≤ l.length := by first | exact trivial | omega | (simp only [true_and, and_true, and_self]; omega) | exact ⟨trivial, rfl⟩ | exact ⟨rfl, rfl, by decide⟩ | rfl | (simp only [true_and, and_true, and_self]; done) | decide | assumption | exact ⟨by assumption, by omega⟩ | exact ⟨by assumption, by assumption⟩ | exact ⟨by assumption, by assumption, by omega⟩) :
    G ro P N D w0 O ops (⟨some d, .slice t x (some y) (some z) none, ty, pos, af, none⟩ :: lo) s m Q :=
  G_cutR (some y) (some z) a b hx hN (.inl ⟨y, i, sd, rfl, hy, hn, hs.1.1⟩) (.inl ⟨z, i', sd', rfl, hz, hn', hs.1.2⟩) hs.2 k
end
end Go.Proofs.Ytnncjfphdcfimaa
/- Contracts by classes; loops whose other slots stay; ends. -/
set_option linter.unusedVariables false
set_option linter.unusedSimpArgs false
namespace Go.Proofs.Ytnncjfphdcfimaa
open Go.RowKit

class AppL (a b : List Value) (r : outParam (List Value)) : Prop where
  eq : a ++ b = r
instance appL_nil {b : List Value} : AppL [] b b := ⟨rfl⟩
instance appL_cons {x : Value} {a b r : List Value} [h : AppL a b r] : AppL (x :: a) b (x :: r) := ⟨by rw [← h.eq]; rfl⟩
instance appL_nil2 {a : List Value} : AppL a [] a := ⟨List.append_nil a⟩

/-- a is b: a fact at hand, or a itself -/
class Eqn {α : Type} (a : α) (b : outParam α) : Prop where
  eq : a = b
instance (priority := low) eqn_self {α : Type} {a : α} : Eqn a a := ⟨rfl⟩

/-- The call hands back v and leaves all as it was. -/
class CallV (P : Program) (w0 : World) (O : List Nat) (m : List As) (f : FuncId) (args : List Value) (side : outParam Prop) (v : outParam Value) : Prop where
  call : side → ∀ w, St w0 O m w → Calls P f args.toArray w (Is w v)
/-- The call hands back V i for some i with Φ i, and leaves M i held. -/
class CallR (P : Program) (w0 : World) (O : List Nat) (m : List As) (f : FuncId) (args : List Value) (side : outParam Prop) {ι : outParam Type} (Φ : outParam (ι → Prop)) (V : outParam (ι → Value)) (M : outParam (ι → List As)) : Prop where
  call : side → ∀ w, St w0 O m w → Calls P f args.toArray w (fun e w' => ∃ i, Φ i ∧ e = .returned (V i) ∧ St w0 O (M i) w')

section
variable {ro : Option Nat} {P : Program} {N : Nat} {D : List Deferred} {w0 : World} {O : List Nat} {ops : Array Oper} {l : List Oper} {s : List (Nat × Value)} {m : List As} {Q : Exit → Act → World → Prop}
variable {d : Nat} {ty : TypeId} {pos : String} {af : Array Edge}

/-- a contract that makes new memory alone -/
theorem CallR.new {f : FuncId} {args : List Value} {side : Prop} {ι : Type} {Φ : ι → Prop} {V : ι → Value} {M : ι → List As} (h : side → ∀ w, St w0 O m w → Calls P f args.toArray w (Ret w [] Φ V M)) :
    CallR P w0 O m f args side Φ V (fun i => M i ++ m) := ⟨fun hs w hw => (h hs w hw).mono (by
  rintro e w' ⟨i, hi, he, hst⟩
  exact ⟨i, hi, he, hw.grow hst⟩)⟩

theorem CallR.new1 {f : FuncId} {args : List Value} {side : Prop} {ι : Type} {Φ : ι → Prop} {V : ι → Value} {M : ι → As} (h : side → ∀ w, St w0 O m w → Calls P f args.toArray w (Ret w [] Φ V (fun i => [M i]))) :
    CallR P w0 O m f args side Φ V (fun i => M i :: m) := .new (M := fun i => [M i]) h

theorem G_callAny {f : FuncId} {args : Array Operand} {at_ : Array TypeId} {x : Operand} {first cap vals r1 all : List Value} {ι : Type} {Φ : ι → Prop} {V : ι → Value} {M : ι → List As}
    [he : En P f] (hf : ev s x = some (.func (.func f) first.toArray cap.toArray)) (ha : evs s args.toList = some vals) (hN : Nat.blt d N = true) (e1 : first ++ vals = r1) (e2 : r1 ++ cap = all)
    (hc : ∀ w, St w0 O m w → Calls P f all.toArray w (fun e w' => ∃ i, Φ i ∧ e = .returned (V i) ∧ St w0 O (M i) w'))
    (k : ∀ i, Φ i → G ro P N D w0 O ops l ((d, V i) :: s) (M i) Q) :
    G ro P N D w0 O ops (⟨some d, .call ⟨.value x, args, at_⟩, ty, pos, af, none⟩ :: l) s m Q := fun a w hs hdf hm => by
  subst e1 e2
  have h1 : args.map a.eval = vals.toArray := by rw [← evs_map hs ha]; apply Array.ext'; simp
  simp only [wpL, Region.wanted, if_true]
  refine ⟨fun _ _ => trivial, ?_⟩
  rw [Oper.semAt_eq _ _ _ (by simp)]
  have hrun : (execOp a.eval ⟨some d, .call ⟨.value x, args, at_⟩, ty, pos, af, none⟩).run P w = .ok (.enter f (first ++ vals ++ cap).toArray) w := by
    have h2 := he.run (first ++ vals ++ cap).toArray w
    have e3 : first.toArray ++ vals.toArray ++ cap.toArray = (first ++ vals ++ cap).toArray := by simp
    simp only [execOp, resolve, hs.ev hf, Deferred.ofValue, h1, Sem.run_bind, Sem.run_pure, Result.andThen, invoke, e3, h2]
  rw [hrun, Oper.uponIn_enter]
  refine ⟨fun h => by simp [FW] at h, callsFW ((hc w hm).mono ?_)⟩
  rintro e w' ⟨i, hi, rfl, hst⟩
  exact k i hi _ _ (hs.put d (V i) hN) (by simpa [Act.put] using hdf) hst

theorem G_callV {f : FuncId} {args : Array Operand} {at_ : Array TypeId} {x : Operand} {first cap vals r1 all : List Value} {v : Value} {side : Prop}
    [he : En P f] (hf : ev s x = some (.func (.func f) first.toArray cap.toArray)) (ha : evs s args.toList = some vals) (hN : Nat.blt d N = true) [e1 : AppL first vals r1] [e2 : AppL r1 cap all]
    [hc : CallV P w0 O m f all side v] (k : G ro P N D w0 O ops l ((d, v) :: s) m Q) (hs : side := by first | exact trivial | omega | (simp only [true_and, and_true, and_self]; omega) | exact ⟨trivial, rfl⟩ | exact ⟨rfl, rfl, by decide⟩ | rfl | (simp only [true_and, and_true, and_self]; done) | decide | assumption | exact ⟨by assumption, by omega⟩ | exact ⟨by assumption, by assumption⟩ | exact ⟨by assumption, by assumption, by omega⟩ | (with_reducible refine And.intro ?_ ?_ <;> first | exact True.intro | omega | assumption | (with_reducible refine And.intro ?_ ?_ <;> first | exact True.intro | omega | assumption | (with_reducible refine And.intro ?_ ?_ <;> first | exact True.intro | omega | assumption)))) :
    G ro P N D w0 O ops (⟨some d, .call ⟨.value x, args, at_⟩, ty, pos, af, none⟩ :: l) s m Q :=
  G_callAny (ι := Unit) (Φ := fun _ => True) (V := fun _ => v) (M := fun _ => m) hf ha hN e1.eq e2.eq (fun w hw => (hc.call hs w hw).mono (by
    rintro e w' ⟨rfl, h⟩
    exact ⟨(), trivial, rfl, hw.grow h⟩)) (fun _ _ => k)

theorem G_callR {f : FuncId} {args : Array Operand} {at_ : Array TypeId} {x : Operand} {first cap vals r1 all : List Value} {side : Prop} {ι : Type} {Φ : ι → Prop} {V : ι → Value} {M : ι → List As}
    [he : En P f] (hf : ev s x = some (.func (.func f) first.toArray cap.toArray)) (ha : evs s args.toList = some vals) (hN : Nat.blt d N = true) [e1 : AppL first vals r1] [e2 : AppL r1 cap all]
    [hc : CallR P w0 O m f all side Φ V M] (k : ∀ i, Φ i → G ro P N D w0 O ops l ((d, V i) :: s) (M i) Q) (hs : side := by first | exact trivial | omega | (simp only [true_and, and_true, and_self]; omega) | exact ⟨trivial, rfl⟩ | exact ⟨rfl, rfl, by decide⟩ | rfl | (simp only [true_and, and_true, and_self]; done) | decide | assumption | exact ⟨by assumption, by omega⟩ | exact ⟨by assumption, by assumption⟩ | exact ⟨by assumption, by assumption, by omega⟩ | (with_reducible refine And.intro ?_ ?_ <;> first | exact True.intro | omega | assumption | (with_reducible refine And.intro ?_ ?_ <;> first | exact True.intro | omega | assumption | (with_reducible refine And.intro ?_ ?_ <;> first | exact True.intro | omega | assumption)))) :
    G ro P N D w0 O ops (⟨some d, .call ⟨.value x, args, at_⟩, ty, pos, af, none⟩ :: l) s m Q :=
  G_callAny hf ha hN e1.eq e2.eq (hc.call hs) k

/-! ### Slices without spare room -/
def clipV : Value → Value
  | .slice A n c => .slice A n n
  | v => v
instance rdR_clip {α : Type} [Elt α] {v : Value} {xs : List α} [h : RdR w0 O m v xs] : RdR w0 O m (clipV v) xs := ⟨fun w hw => by
  obtain ⟨A, n, c, rfl, h1, h2, h3, h4⟩ := h.rd w hw
  exact ⟨A, n, n, rfl, h1, Nat.le_refl _, by omega, h4⟩⟩
theorem clip_form {α : Type} [Elt α] {w : World} {v : Value} {xs : List α} (h : RdL w v xs) : ∃ A, clipV v = .slice A xs.length xs.length := by
  obtain ⟨A, c, rfl, _⟩ := h.form
  exact ⟨A, rfl⟩
/-- append onto such a slice: a new row -/
theorem G_appFull {α : Type} [Elt α] [hsc : Scal α] {t e : TypeId} {z : Value} {bs : Nat} {x y : Operand} {v u : Value} {xs ys r : List α} [ht : Und P t (.slice e)] [hL : Lay P e α] [hR : Rw P e [z] bs] (hx : ev s x = some (clipV v)) (hy : ev s y = some u) (hN : Nat.blt d N = true)
    [h : RdR w0 O m v xs] [hu : RdR w0 O m u ys] [hn : AppN xs ys r] (kk : ∀ v', G ro P N D w0 O ops l ((d, v') :: s) (row v' e r :: m) Q) (h0 : 0 < ys.length := by first | omega | (simp only [List.length_append, List.length_cons, List.length_nil, List.length_map, List.length_take, List.length_drop, List.length_replicate, List.length_set, List.length_reverse, List.length_range]; omega)) (hb : (xs.length + ys.length) * bs ≤ 140737488355328 := by first | omega | (simp only [List.length_append, List.length_cons, List.length_nil, List.length_map, List.length_take, List.length_drop, List.length_replicate, List.length_set, List.length_reverse, List.length_range]; omega)) :
    G ro P N D w0 O ops (⟨some d, .call ⟨.builtin .append, #[x, y], #[t, t]⟩, ty, pos, af, none⟩ :: l) s m Q := fun a w hs hd hw => by
  have hc : RdR w0 O m (clipV v) xs := inferInstance
  obtain ⟨A, e1⟩ := clip_form (h.rd w hw)
  rw [e1] at hx hc
  have hsz := hsc.sz
  have hl : ∀ q : List α, (encs q).length = q.length := fun q => by rw [encs_length, hsz, Nat.mul_one]
  refine G_append_full (xs := encs xs) (ys := encs ys) (k := ys.length) hx hy (fun w' hw' => ?_) (fun w' hw' => ?_) (hl ys) h0 (encs_one ys) hb hN (fun v' => ?_) a w hs hd hw
  · have := hc.rd w' hw'; unfold RdL at this; rwa [hsz] at this
  · have := hu.rd w' hw'; unfold RdL at this; rwa [hsz] at this
  · have e2 : row v' e r = .own v' e 1 (xs.length + ys.length) (encs xs ++ encs ys) := by rw [← hn.eq]; simp [row, hsz]
    rw [← e2]; exact kk v'

/-- append onto a slice that is full -/
theorem G_appFullS {α : Type} [Elt α] [hsc : Scal α] {t e : TypeId} {z : Value} {bs : Nat} {x y : Operand} {A : Option Addr} {n : Nat} {u : Value} {xs ys r : List α} [ht : Und P t (.slice e)] [hL : Lay P e α] [hR : Rw P e [z] bs] (hx : ev s x = some (.slice A n n)) (hy : ev s y = some u) (hN : Nat.blt d N = true)
    [h : RdR w0 O m (.slice A n n) xs] [hu : RdR w0 O m u ys] [hn : AppN xs ys r] (kk : ∀ v', G ro P N D w0 O ops l ((d, v') :: s) (row v' e r :: m) Q) (h0 : 0 < ys.length := by first | omega | (simp only [List.length_append, List.length_cons, List.length_nil, List.length_map, List.length_take, List.length_drop, List.length_replicate, List.length_set, List.length_reverse, List.length_range]; omega)) (hb : (xs.length + ys.length) * bs ≤ 140737488355328 := by first | omega | (simp only [List.length_append, List.length_cons, List.length_nil, List.length_map, List.length_take, List.length_drop, List.length_replicate, List.length_set, List.length_reverse, List.length_range]; omega)) :
    G ro P N D w0 O ops (⟨some d, .call ⟨.builtin .append, #[x, y], #[t, t]⟩, ty, pos, af, none⟩ :: l) s m Q := fun a w hs hd hw => by
  have e1 : n = xs.length := by
    obtain ⟨A', c, e1, _⟩ := (h.rd w hw).form
    cases e1; rfl
  subst e1
  have hsz := hsc.sz
  have hl : ∀ q : List α, (encs q).length = q.length := fun q => by rw [encs_length, hsz, Nat.mul_one]
  refine G_append_full (xs := encs xs) (ys := encs ys) (k := ys.length) hx hy (fun w' hw' => ?_) (fun w' hw' => ?_) (hl ys) h0 (encs_one ys) hb hN (fun v' => ?_) a w hs hd hw
  · have := h.rd w' hw'; unfold RdL at this; rwa [hsz] at this
  · have := hu.rd w' hw'; unfold RdL at this; rwa [hsz] at this
  · have e2 : row v' e r = .own v' e 1 (xs.length + ys.length) (encs xs ++ encs ys) := by rw [← hn.eq]; simp [row, hsz]
    rw [← e2]; exact kk v'
/-! ### []byte of a constant text -/
instance (priority := high) rdR_box8 {b : Nat} {e : TypeId} {mk : Nat × Nat} {ls : List (BitVec 8)} [hb : Fct (ls.length ≤ 1000)] : RdR w0 O (.box b (.cells (encs ls).toArray e mk) :: m) (.slice (some ⟨b, 0, none⟩) ls.length ls.length) ls := ⟨fun w hw => by
  have h1 : w.heap[b]? = some (.cells (encs ls).toArray e mk) := hw.ok _ (List.Mem.head _)
  have h2 := hb.out
  exact rd_box h1 (by rw [encs_length]; exact Nat.mul_one _) (by simp only [maxLen]; omega)⟩
theorem G_strLit {t e ty' : TypeId} {z : Value} {n d' : Nat} {parts : Array (Nat × Operand)} {vals : List Value} {ls : List (BitVec 8)} {side : Prop} {pos' : String} {af' : Array Edge} [ht : Und P t (.slice e)] [he : Und P e (.int .u8)] [hS : Sc P e z]
    (hv : evs s (parts.toList.map (·.2)) = some vals) (hi : parts.toList.map (·.1) = List.range n) (hn : vals.length = n) (h1 : vals.all (·.oneCell') = true) (hsz : Nat.ble n 1000 = true) (hN : Nat.blt d N = true) (hN' : Nat.blt d' N = true) [hl0 : DecL (BitVec 8) vals ls side]
    (k : ∀ b, Fct (ls.length ≤ 1000) → G ro P N D w0 O ops l ((d', .slice (some ⟨b, 0, none⟩) ls.length ls.length) :: (d, .slice (some ⟨b, 0, none⟩) ls.length ls.length) :: s) (.box b (.cells (encs ls).toArray e ((encs ls).toArray.size, (encs ls).toArray.size + 1)) :: m) Q) (hsd : side := by first | exact trivial | decide | omega) :
    G ro P N D w0 O ops (⟨some d, .buildSlice t n parts, ty, pos, af, none⟩ :: ⟨some d', .convert t t (.tmp d), ty', pos', af', none⟩ :: l) s m Q := by
  have e1 : vals = ls.map Elt.val := hl0.eq hsd
  have e2 : vals = encs ls := by rw [e1, encs_byte]; rfl
  have e3 : n = ls.length := by rw [← hn, e1, List.length_map]
  refine G_buildSlice hv hi hn h1 hsz hN fun b => ?_
  subst e2 e3
  refine G_convBytes (b := b) (n := ls.length) (c := ls.length) (by simp [ev, look]) hN' ?_
  exact k b ⟨Nat.le_of_ble_eq_true hsz⟩
/-! ### Loops -/
/-- want is taken out of m -/
class SplitM (m want : List As) (mk : outParam (List As)) : Prop where
  ent : Ent m (want ++ mk)
instance splitM_nil {m : List As} : SplitM m [] m := ⟨Ent.refl m⟩
instance splitM_row {α : Type} [Elt α] {v : Value} {e : TypeId} {l : List α} {m m1 r mk : List As} [h : OwnR v m e l m1] [h' : SplitM m1 r mk] : SplitM m (row v e l :: r) mk := ⟨h.ent.trans (h'.ent.cons _)⟩
instance splitM_box {b : Nat} {o : Obj} {m m1 r mk : List As} [h : BoxR b m o m1] [h' : SplitM m1 r mk] : SplitM m (.box b o :: r) mk := ⟨h.ent.trans (h'.ent.cons _)⟩

def memN (k : Nat) : List Nat → Bool
  | [] => false
  | j :: r => j == k || memN k r
def keysOf : List (Nat × Value) → List Nat
  | [] => []
  | (k, _) :: r => k :: keysOf r
/-- the slots of s that no key of seen covers hold in s' what they hold in s -/
def frame (s' : List (Nat × Value)) : List Nat → List (Nat × Value) → Prop
  | _, [] => True
  | seen, (k, v) :: r => (bif memN k seen then some v else look s' k) = some v ∧ frame s' (k :: seen) r

theorem memN_iff {k : Nat} : ∀ {l : List Nat}, memN k l = true ↔ k ∈ l
  | [] => by simp [memN]
  | j :: r => by
    simp only [memN, Bool.or_eq_true, memN_iff (l := r), List.mem_cons, beq_iff_eq]
    constructor
    · rintro (h | h)
      · exact .inl h.symm
      · exact .inr h
    · rintro (rfl | h)
      · exact .inl rfl
      · exact .inr h
theorem look_app {ex s : List (Nat × Value)} {t : Nat} {v : Value} : look (ex ++ s) t = some v → look ex t = some v ∨ (¬ t ∈ keysOf ex ∧ look s t = some v) := by
  induction ex with
  | nil => intro h; exact .inr ⟨by simp [keysOf], h⟩
  | cons p r ih =>
    obtain ⟨k, u⟩ := p
    intro h
    simp only [List.cons_append, look] at h
    by_cases e : k = t
    · subst e
      left
      simpa [look] using h
    · rw [beq_no e] at h
      rcases ih h with h1 | ⟨h1, h2⟩
      · left; unfold look; rw [beq_no e]; exact h1
      · right; exact ⟨by simp [keysOf, h1]; exact fun h => e h.symm, h2⟩
theorem frame_at {s' : List (Nat × Value)} : ∀ {s : List (Nat × Value)} {seen : List Nat}, frame s' seen s → ∀ t v, ¬ t ∈ seen → look s t = some v → look s' t = some v
  | [], _, _, t, v, _, h => by simp [look] at h
  | (k, u) :: r, seen, hf, t, v, hn, h => by
    unfold look at h
    by_cases e : k = t
    · subst e
      simp only [Nat.beq_refl, cond_true, Option.some.injEq] at h
      subst h
      have h1 := hf.1
      have : memN k seen = false := by
        cases hm : memN k seen with
        | false => rfl
        | true => exact absurd (memN_iff.1 hm) hn
      rw [this] at h1
      exact h1
    · rw [beq_no e] at h
      exact frame_at hf.2 t v (by simp [hn]; exact fun h => e h.symm) h
theorem frame_app {s' s ex : List (Nat × Value)} (h1 : subs s' ex) (h2 : frame s' (keysOf ex) s) : ∀ t v, look (ex ++ s) t = some v → look s' t = some v := fun t v h => by
  rcases look_app h with h | ⟨hn, h⟩
  · exact h1.at_ t v h
  · exact frame_at h2 t v hn h
theorem subs_app {s ex : List (Nat × Value)} (h1 : subs s ex) : ∀ t v, look (ex ++ s) t = some v → look s t = some v := fun t v h => by
  rcases look_app h with h | ⟨_, h⟩
  · exact h1.at_ t v h
  · exact h

theorem GC_loopG {X : Type} {c : Code} (Φ : X → Prop) (S : X → List (Nat × Value)) (M : X → List As) (μ : X → Nat) (x0 : X) (h0 : Φ x0) (hs : ∀ t v, look (S x0) t = some v → look s t = some v) (hm : ∀ w, St w0 O m w → St w0 O (M x0) w)
    (round : ∀ x, Φ x → GC ro P N D w0 O c (S x) (M x) (Round N D w0 O Φ S M μ (μ x) Q)) : GC ro P N D w0 O (.loop c) s m Q := fun a w hs' hd hm' => by
  intro b k cs hro hb hr
  have key : ∀ j x a w, μ x = j → Φ x → Has N (S x) a → a.defers = D → St w0 O (M x) w →
      ∃ e a' w', Q e a' w' ∧ ArrivesIn (Machine.fenced P (FW ro)) P (lone (b.atR a (.code c :: .inLoop c :: k)) cs w) b k cs e a' w' := by
    intro j
    induction j using Nat.strongRecOn with
    | _ j ih =>
      intro x a w hn hx hsx hdx hmx
      obtain ⟨e, a₁, w₁, hq, harr⟩ := round x hx a w hsx hdx hmx b (.inLoop c :: k) cs hro hb hr
      cases e with
      | normal =>
        obtain ⟨x', hx', hlt, hs1, hd1, hm1⟩ := hq
        obtain ⟨e₂, a₂, w₂, hq₂, harr₂⟩ := ih (μ x') (hn ▸ hlt) x' a₁ w₁ rfl hx' hs1 hd1 hm1
        exact ⟨e₂, a₂, w₂, hq₂, .of_steps (StepsIn.trans harr (.one (fenced_calm hb hr rfl) stepR_inLoop)) harr₂⟩
      | exit id => exact ⟨_, a₁, w₁, hq, .pass (x := .inLoop c) rfl (fun _ _ => .inl (by simp)) harr⟩
      | goto l => exact ⟨_, a₁, w₁, hq, .pass (x := .inLoop c) rfl (fun _ _ => .inl (by simp)) harr⟩
      | ret => exact ⟨_, a₁, w₁, hq, .pass (x := .inLoop c) rfl (fun _ _ => .inl (by simp)) harr⟩
      | panic ch => exact ⟨_, a₁, w₁, hq, .pass (x := .inLoop c) rfl (fun _ _ => .inl (by simp)) harr⟩
      | outgrown => exact ⟨_, a₁, w₁, hq, .pass (x := .inLoop c) rfl (fun _ _ => .inl (by simp)) harr⟩
  obtain ⟨e, a', w', hq, harr⟩ := key _ x0 a w rfl h0 ⟨hs'.size, fun t v h => hs'.at_ t v (hs t v h)⟩ hd (hm w hm')
  exact ⟨e, a', w', hq, .of_steps (.one (fenced_calm hb hr rfl) stepR_loop) harr⟩

/-- the post of a loop's round, its parts apart -/
def RoundS (N : Nat) (D : List Deferred) (w0 : World) (O : List Nat) {X : Type} (Φ : X → Prop) (ex : X → List (Nat × Value) → List (Nat × Value)) (s0 : List (Nat × Value)) (mx : X → List As → List As) (mk : List As) (μ : X → Nat) (b : Nat) (Q : Exit → Act → World → Prop) : Exit → Act → World → Prop :=
  Round N D w0 O Φ (fun x => ex x s0) (fun x => mx x mk) μ b Q
theorem At_roundS_exit {X : Type} {Φ : X → Prop} {ex : X → List (Nat × Value) → List (Nat × Value)} {s0 : List (Nat × Value)} {mx : X → List As → List As} {mk : List As} {μ : X → Nat} {b : Nat} {id : Nat} (h : At N D w0 O (.exit id) s m Q) : At N D w0 O (.exit id) s m (RoundS N D w0 O Φ ex s0 mx mk μ b Q) := h
theorem At_roundS_ret {X : Type} {Φ : X → Prop} {ex : X → List (Nat × Value) → List (Nat × Value)} {s0 : List (Nat × Value)} {mx : X → List As → List As} {mk : List As} {μ : X → Nat} {b : Nat} (h : At N D w0 O .ret s m Q) : At N D w0 O .ret s m (RoundS N D w0 O Φ ex s0 mx mk μ b Q) := h

/-- A loop: ex x are the slots that its rounds turn (with what they hold), mx x what they turn of memory; all else stays. -/
theorem GC_loopS {X : Type} {c : Code} {want mk : List As} (Φ : X → Prop) (ex : X → List (Nat × Value) → List (Nat × Value)) (mx : X → List As → List As) (μ : X → Nat) (x0 : X) (h0 : Φ x0) (hs : subs s (ex x0 []))
    (round : ∀ x, Φ x → GC ro P N D w0 O c (ex x s) (mx x mk) (RoundS N D w0 O Φ ex s mx mk μ (μ x) Q)) [hm : SplitM m want mk]
    (hm0 : mx x0 [] = want := by first | ((simp only [List.append_nil, List.nil_append, List.take_zero, List.drop_zero, List.map_nil, List.foldl_nil, List.length_nil, List.reverse_nil, List.flatMap_nil, List.replicate_zero]); exact rfl) | exact rfl)
    (hex : ∀ x r, ex x r = ex x [] ++ r := by exact fun _ _ => rfl) (hmx : ∀ x r, mx x r = mx x [] ++ r := by exact fun _ _ => rfl) : GC ro P N D w0 O (.loop c) s m Q :=
  GC_loopG Φ (fun x => ex x s) (fun x => mx x mk) μ x0 h0 (fun t v h => subs_app hs t v (by rw [← hex]; exact h)) (fun w hw => by rw [hmx, hm0]; exact hm.ent.st hw) round

/-- a round's end -/
theorem At_roundS {X : Type} {s0 : List (Nat × Value)} {want mk : List As} {Φ : X → Prop} {ex : X → List (Nat × Value) → List (Nat × Value)} {mx : X → List As → List As} {μ : X → Nat} {b : Nat} (x' : X) (hx : Φ x') (hlt : μ x' < b) (hs : subs s (ex x' [])) (hf : frame s (keysOf (ex x' [])) s0) [hm : SubM m want] (hw : mx x' mk = want := by exact rfl)
    (hex : ex x' s0 = ex x' [] ++ s0 := by rfl) :
    At N D w0 O .normal s m (RoundS N D w0 O Φ ex s0 mx mk μ b Q) := fun a w hsa hd hma =>
  ⟨x', hx, hlt, ⟨hsa.size, fun t v h => hsa.at_ t v (frame_app hs hf t v (by rw [← hex]; exact h))⟩, hd, by show St w0 O (mx x' mk) w; rw [hw]; exact hm.ent.st hma⟩

/-! ### Ends -/
theorem Ret.mk {ι : Type} {w w' : World} {Φ : ι → Prop} {V : ι → Value} {M : ι → List As} {m : List As} {e : Ending} (i : ι) (hi : Φ i) (he : e = .returned (V i)) (h : St w [] m w') [hm : SubM m (M i)] : Ret w [] Φ V M e w' := ⟨i, hi, he, hm.ent.st h⟩
theorem Is.mk {w w' : World} {v : Value} {m : List As} {e : Ending} (he : e = .returned v) (h : St w [] m w') : Is w v e w' := ⟨he, h.drop (List.nil_sublist _)⟩
end
end Go.Proofs.Ytnncjfphdcfimaa
/- Regions that draw their order: memory that the chain alone passes on. -/
set_option linter.unusedVariables false
set_option linter.unusedSimpArgs false
namespace Go.Proofs.Ytnncjfphdcfimaa
open Go.RowKit

/-- as step_congr, for an operation that may panic -/
theorem step_congrP {ro : Option Nat} {P : Program} {ops : Array Oper} {Q Q1 : Exit → Act → World → Prop} {i : Nat} {o : Oper} {a a' : Act} {w : World} {K : Act → World → Prop}
    (hi : ops[i]? = some o) (hp : plainOp o.op = true) (hz : a'.tmps.size = a.tmps.size) (hl : ∀ t ∈ o.looksAt ops, a'.tmps.getD t undef = a.tmps.getD t undef)
    (hQ : ∀ e b u, Q1 e b u → (e = .normal ∧ b.defers = a'.defers) ∨ ∃ c, e = .panic c) (hP : ∀ c w', Q1 (.panic c) a' w' → Q (.panic c) a w') (h : wpL ro P ops Q1 [o] a' w) (hK : ∀ v w', Q1 .normal (a'.put o.dst v) w' → K (a.put o.dst v) w') :
    wpOpIn (FW ro) 0 P ops Q i K a w := by
  have hd : ∀ c, o.op ≠ .defer c := fun c e => by rw [e] at hp; cases hp
  have hs : ∀ cs b, o.op ≠ .select cs b := fun cs b e => by rw [e] at hp; cases hp
  have hno : ∀ b u, ¬ Q1 .outgrown b u := fun b u hb => by
    rcases hQ _ _ _ hb with ⟨h1, _⟩ | ⟨c, h1⟩ <;> cases h1
  unfold wpOpIn
  simp only [hi]
  simp only [wpL] at h
  rw [wanted_congr hz hl] at h
  split
  · rename_i hw
    rw [if_pos hw] at h
    unfold Oper.wpIn at *
    rw [Oper.semAt_plain (FW ro) _ o hd] at h ⊢
    rw [execOp_congr o hs (eval_congr hl)] at h
    refine ⟨fun _ _ => trivial, ?_⟩
    have h := h.2
    generalize (execOp a.eval o).run P w = r at *
    cases r with
    | ok x w' =>
      cases x <;> simp only [Oper.uponIn] at h ⊢
      case value u => exact hK _ _ h
      case skip => exact hK _ _ h
      case defer d =>
        rcases hQ _ _ _ h with ⟨_, h1⟩ | ⟨c, h1⟩
        · rw [put_defers] at h1
          exact absurd (congrArg List.length h1) (by simp)
        · cases h1
      case enter f args =>
        refine ⟨h.1, CallsIn.mono h.2 fun e w'' he => ?_⟩
        cases e with
        | returned u => exact hK _ _ he
        | panicked c => exact hP _ _ he
        | outgrown =>
          obtain ⟨b, u, hb⟩ := he
          exact absurd hb (hno b u)
      case row row args => exact ⟨h.1, RowsIn.mono h.2 fun u w'' he => hK _ _ he⟩
      case round l f tmps assign body =>
        refine ⟨h.1, RoundIn.mono h.2 fun e w'' he => ?_⟩
        cases e with
        | returned u => exact hK _ _ he
        | panicked c => exact hP _ _ he
        | outgrown =>
          obtain ⟨b, u, hb⟩ := he
          exact absurd hb (hno b u)
    | halt x w' =>
      cases x <;> simp only [Oper.uponIn] at h ⊢
      case panic u => exact hP _ _ h
  · rename_i hw
    rw [if_neg hw] at h
    exact ⟨fun _ _ => trivial, hK _ _ h⟩

def CPostQ (N : Nat) (D : List Deferred) (w0 : World) (O : List Nat) (d : Nat) (m : List As) (Q : Exit → Act → World → Prop) (R : World → List Nat → Value → List As → Prop) : Exit → Act → World → Prop :=
  fun e a w => (e = .normal ∧ a.defers = D ∧ ∃ w1 O1 v q, Reb w0 O w1 O1 ∧ a.tmps.getD d undef = v ∧ St w1 O1 (q ++ m) w ∧ R w1 O1 v q) ∨ ∃ c w1 O1 m', e = .panic c ∧ St w1 O1 m' w ∧ At N D w1 O1 (.panic c) [] m' Q

/-- what an allocation does -/
structure AlOK (P : Program) (o : Oper) (d : Nat) (ob : Obj) : Prop where
  dst : o.dst = some d
  guard : o.guard = none
  run : ∀ (ρ : Operand → Value) (w : World), (execOp ρ o).run P w = .ok (.value (.pointer (some ⟨w.heap.size, 0, none⟩))) (w.alloc ob)
/-- allocations that the last operations alone look at: which, their slots, their blocks -/
abbrev Als := List (Nat × Nat × Obj)
def alAt : Als → Nat → Option (Nat × Obj)
  | [], _ => none
  | (i, d, ob) :: r, j => bif Nat.beq i j then some (d, ob) else alAt r j

/-- q: what the chain alone passes on; m: what is left alone from here on -/
def DQG (ro : Option Nat) (P : Program) (N : Nat) (D : List Deferred) (ops : Array Oper) (L : List Oper) (cs : List Nat) (als : Als) (k : Nat) (Q : Exit → Act → World → Prop) : List Nat → World → List Nat → List (Nat × Value) → List As → List As → Prop
  | [], w0, O, s, q, m => G ro P N D w0 O ops (L.drop k) s (q ++ m) Q
  | i :: r, w0, O, s, q, m => match alAt als i with
    | some (d, ob) => ∀ b, DQG ro P N D ops L cs als k Q r w0 O ((d, .pointer (some ⟨b, 0, none⟩)) :: s) (.box b ob :: q) m
    | none => ∃ o d, L[i]? = some o ∧ o.dst = some d ∧
      if cs.contains i = true then ∀ mf, G ro P N D w0 O ops [o] s (q ++ (m ++ mf)) (CPostQ N D w0 O d (m ++ mf) Q fun w1 O1 v q' => DQG ro P N D ops L cs als k Q r w1 O1 ((d, v) :: s) q' m)
      else ∃ v q1 m1, (q1 = q ∧ m1 = m ∨ q1 = [] ∧ m1 = q ++ m) ∧ (∀ w1 O1, Reb w0 O w1 O1 → ∀ m', G ro P N D w1 O1 ops [o] s (m1 ++ m') (XPost N D w1 O1 d v (m1 ++ m'))) ∧ DQG ro P N D ops L cs als k Q r w0 O ((d, v) :: s) q1 m1
def DQ (ro : Option Nat) (P : Program) (N : Nat) (D : List Deferred) (w0 : World) (O : List Nat) (ops : Array Oper) (L : List Oper) (cs : List Nat) (als : Als) (k : Nat) (Q : Exit → Act → World → Prop) (r : List Nat) (s : List (Nat × Value)) (q m : List As) : Prop :=
  DQG ro P N D ops L cs als k Q r w0 O s q m

/-- an operation whose value is known may come at any base behind -/
def PendQ (ro : Option Nat) (P : Program) (N : Nat) (D : List Deferred) (w0 : World) (O : List Nat) (L : List Oper) (s : List (Nat × Value)) (m : List As) (i : Nat) : Prop :=
  ∃ o d v si mi, L[i]? = some o ∧ o.dst = some d ∧ look s d = some v ∧ keysB N si = true ∧ (∀ t u, look si t = some u → look s t = some u) ∧ (∃ m', List.Perm m (mi ++ m')) ∧
    ∀ w1 O1, Reb w0 O w1 O1 → ∀ m', G ro P N D w1 O1 L.toArray [o] si (mi ++ m') (XPost N D w1 O1 d v (mi ++ m'))

/-! ### What is asked of the order -/
def chainE (L : List Oper) (cs : List Nat) (als : Als) : List Nat → Bool
  | [] => true
  | c :: r => (!cs.contains c || r.all fun i => (alAt als i).isSome || reachB L c L.length i) && chainE L cs als r
def ChainE (L : List Oper) (cs : List Nat) (als : Als) : List Nat → Prop
  | [] => True
  | c :: r => (cs.contains c = true → ∀ i ∈ r, alAt als i = none → Reach L c i) ∧ ChainE L cs als r
theorem chainE_spec {L : List Oper} {cs : List Nat} {als : Als} : ∀ {l : List Nat}, chainE L cs als l = true → ChainE L cs als l
  | [], _ => trivial
  | c :: r, h => by
    simp only [chainE, Bool.and_eq_true, Bool.or_eq_true, Bool.not_eq_true', List.all_eq_true] at h
    refine ⟨fun hc i hi ha => ?_, chainE_spec h.2⟩
    rcases h.1 with h1 | h1
    · rw [hc] at h1; cases h1
    · rcases h1 i hi with h2 | h2
      · rw [ha] at h2; cases h2
      · exact reachB_spec h2
def atailB (als : Als) : List Nat → Bool
  | [] => true
  | c :: r => (!(alAt als c).isSome || r.all fun i => (alAt als i).isSome) && atailB als r
def ATail (als : Als) : List Nat → Prop
  | [] => True
  | c :: r => ((alAt als c).isSome = true → ∀ i ∈ r, (alAt als i).isSome = true) ∧ ATail als r
theorem atailB_spec {als : Als} : ∀ {l : List Nat}, atailB als l = true → ATail als l
  | [], _ => trivial
  | c :: r, h => by
    simp only [atailB, Bool.and_eq_true, Bool.or_eq_true, Bool.not_eq_true', List.all_eq_true] at h
    refine ⟨fun hc i hi => ?_, atailB_spec h.2⟩
    rcases h.1 with h1 | h1
    · rw [hc] at h1; cases h1
    · exact h1 i hi

/-! ### The rest: any order -/
section
variable {ro : Option Nat} {P : Program} {N : Nat} {D : List Deferred} {w0 : World} {O : List Nat} {L : List Oper} {order cs : List Nat} {als : Als} {k : Nat} {Q : Exit → Act → World → Prop} {s0 : List (Nat × Value)}

theorem PendQ.grow {s : List (Nat × Value)} {m : List As} {i : Nat} (h : PendQ ro P N D w0 O L s m i) {d : Nat} {v : Value} (hd : look s d = none) (m1 : List As) : PendQ ro P N D w0 O L ((d, v) :: s) (m1 ++ m) i := by
  obtain ⟨o, e, u, si, mi, h1, h2, h3, h4, h5, ⟨m', h6⟩, h7⟩ := h
  have hx : ∀ t u, look s t = some u → look ((d, v) :: s) t = some u := fun t u hu => by
    unfold look
    have : ¬ d = t := fun e => by subst e; rw [hd] at hu; cases hu
    rw [beq_no this]
    exact hu
  refine ⟨o, e, u, si, mi, h1, h2, hx _ _ h3, h4, fun t u hu => hx _ _ (h5 t u hu), ⟨m' ++ m1, ?_⟩, h7⟩
  rw [← List.append_assoc]
  exact (List.perm_append_comm).trans (h6.append_right m1)
theorem PendQ.move {s : List (Nat × Value)} {m : List As} {i : Nat} (h : PendQ ro P N D w0 O L s m i) {w1 : World} {O1 : List Nat} (hr : Reb w0 O w1 O1) : PendQ ro P N D w1 O1 L s m i := by
  obtain ⟨o, e, u, si, mi, h1, h2, h3, h4, h5, h6, h7⟩ := h
  exact ⟨o, e, u, si, mi, h1, h2, h3, h4, h5, h6, fun w2 O2 h8 => h7 w2 O2 (hr.trans h8)⟩

/-- the blocks of allocations done early -/
def eBox (als : Als) : List (Nat × Nat) → List As
  | [] => []
  | (i, b) :: r => match alAt als i with
    | some (_, ob) => .box b ob :: eBox als r
    | none => eBox als r
theorem eBox_perm {als : Als} : ∀ {e e' : List (Nat × Nat)}, List.Perm e e' → List.Perm (eBox als e) (eBox als e')
  | _, _, .nil => .nil
  | _, _, .cons (i, b) h => by
    unfold eBox
    split
    · exact (eBox_perm h).cons _
    · exact eBox_perm h
  | _, _, .swap (i, b) (j, c) l => by
    unfold eBox
    cases h1 : alAt als i with
    | none => cases h2 : alAt als j <;> simp only [eBox, h1, h2] <;> exact List.Perm.refl _
    | some p => cases h2 : alAt als j with
      | none => simp only [eBox, h1, h2]; exact List.Perm.refl _
      | some q => simp only [eBox, h1, h2]; exact List.Perm.swap _ _ _
  | _, _, .trans h h' => (eBox_perm h).trans (eBox_perm h')
theorem eBox_cons {als : Als} {i b d : Nat} {ob : Obj} {e : List (Nat × Nat)} (h : alAt als i = some (d, ob)) : eBox als ((i, b) :: e) = .box b ob :: eBox als e := by
  simp only [eBox, h]

structure InvQ (ro : Option Nat) (P : Program) (N : Nat) (D : List Deferred) (w0 : World) (O : List Nat) (L : List Oper) (order cs : List Nat) (als : Als) (k : Nat) (Q : Exit → Act → World → Prop) (r pend : List Nat) (early : List (Nat × Nat)) (s : List (Nat × Value)) (qm m : List As) (l : Array Bool) (a : Act) (w : World) : Prop where
  size : l.size = L.length
  closed : Closed L l
  part : ∀ i, i < L.length → (¬ Lst l i ↔ i ∈ pend ∨ (i ∈ r ∧ i ∉ early.map (·.1)) ∨ k ≤ i)
  sub : ∀ i, i ∈ pend ∨ i ∈ r → i ∈ order
  nodup : (pend ++ r).Nodup
  esub : ∀ p ∈ early, p.1 ∈ r ∧ ∃ d ob, alAt als p.1 = some (d, ob) ∧ a.tmps.getD d undef = .pointer (some ⟨p.2, 0, none⟩)
  enod : (early.map (·.1)).Nodup
  pd : ∀ i ∈ pend, PendQ ro P N D w0 O L s m i
  agree : ∀ t u, look s t = some u → (∀ i ∈ pend, dstAt L i ≠ some t) → a.tmps.getD t undef = u
  fresh : ∀ i ∈ r, ∀ d, dstAt L i = some d → look s d = none
  asize : a.tmps.size = N
  adef : a.defers = D
  st : St w0 O (qm ++ (m ++ eBox als early)) w
  dr : DQ ro P N D w0 O L.toArray L cs als k Q r s qm m
  chain : ChainE L cs als r
  atail : ATail als r
  keys : keysB N s = true

theorem early_len {r : List Nat} {early : List (Nat × Nat)} (h : ∀ p ∈ early, p.1 ∈ r) (hn : (early.map (·.1)).Nodup) : early.length ≤ r.length := by
  have h1 : (early.map (·.1)).length ≤ r.length := by
    refine List.Nodup.length_le_of_subset hn fun x hx => ?_
    obtain ⟨p, hp, rfl⟩ := List.mem_map.1 hx
    exact h p hp
  simpa using h1

theorem InvQ.absorb (S : Stat L order [] k N s0) (hal : ∀ i d ob, alAt als i = some (d, ob) → dstAt L i = some d) : ∀ (r pend : List Nat) (early : List (Nat × Nat)) (s : List (Nat × Value)) (qm m : List As) (l : Array Bool) (a : Act) (w : World), InvQ ro P N D w0 O L order cs als k Q r pend early s qm m l a w →
    ∃ r' pend' early' s' q' m', InvQ ro P N D w0 O L order cs als k Q r' pend' early' s' q' m' l a w ∧ pend'.length + r'.length + early.length = pend.length + r.length + early'.length ∧
      (r' = [] ∨ ∃ c r'', r' = c :: r'' ∧ c ∉ early'.map (·.1) ∧ ((alAt als c = none ∧ cs.contains c = true) ∨ (alAt als c).isSome = true)) := by
  intro r
  induction r with
  | nil => exact fun pend early s qm m l a w h => ⟨[], pend, early, s, qm, m, h, rfl, .inl rfl⟩
  | cons i r ih =>
    intro pend early s qm m l a w h
    have hio : i ∈ order := h.sub i (.inr List.mem_cons_self)
    have hn := h.nodup
    have hn2 := (List.perm_middle (l₁ := pend)).nodup_iff.1 hn
    have hne : i ∉ pend ++ r := (List.nodup_cons.1 hn2).1
    simp only [List.mem_append, not_or] at hne
    have apartF : ∀ {d}, dstAt L i = some d → ∀ j ∈ r, ∀ e, dstAt L j = some e → ¬ d = e := fun {d} hdi j hj e he e' => by
      subst e'
      have := S.apart i hio j (h.sub j (.inr (List.mem_cons_of_mem _ hj))) _ hdi he
      subst this
      exact hne.2 hj
    have freshF : ∀ {d v}, dstAt L i = some d → ∀ j ∈ r, ∀ e, dstAt L j = some e → look ((d, v) :: s) e = none := fun {d v} hdi j hj e he => by
      unfold look
      rw [beq_no (apartF hdi j hj e he)]
      exact h.fresh j (List.mem_cons_of_mem _ hj) e he
    cases hA : alAt als i with
    | some p =>
      obtain ⟨d, ob⟩ := p
      have hdi := hal i d ob hA
      obtain ⟨d', hd', hdN, _⟩ := S.dst i hio
      rw [hdi] at hd'
      cases hd'
      have hf := h.fresh i List.mem_cons_self d hdi
      by_cases hE : i ∈ early.map (·.1)
      · obtain ⟨⟨i', b⟩, hp, rfl⟩ := List.mem_map.1 hE
        simp only at *
        obtain ⟨_, d2, ob2, h2, h3⟩ := h.esub _ hp
        simp only at h2 h3
        rw [hA] at h2
        cases h2
        have hdr : DQG ro P N D L.toArray L cs als k Q (i' :: r) w0 O s qm m := h.dr
        unfold DQG at hdr
        rw [hA] at hdr
        have hperm : List.Perm early ((i', b) :: early.erase (i', b)) := List.perm_cons_erase hp
        have hpm : List.Perm (early.map (·.1)) (i' :: (early.erase (i', b)).map (·.1)) := by simpa using hperm.map (·.1)
        have hen := hpm.nodup_iff.1 h.enod
        have hinv : InvQ ro P N D w0 O L order cs als k Q r pend (early.erase (i', b)) ((d, .pointer (some ⟨b, 0, none⟩)) :: s) (.box b ob :: qm) m l a w := by
          refine ⟨h.size, h.closed, fun j hj => ?_, fun j hj => h.sub j (hj.imp id (List.mem_cons_of_mem _)), (List.nodup_cons.1 hn2).2, fun p hp' => ?_, (List.nodup_cons.1 hen).2, fun j hj => (h.pd j hj).grow hf [], fun t u hu hp => ?_, freshF hdi, h.asize, h.adef, ?_, hdr b, h.chain.2, h.atail.2, ?_⟩
          · rw [h.part j hj]
            by_cases e : j = i'
            · subst e
              have hik := S.ordLt _ hio
              constructor
              · rintro (h1 | ⟨_, h1⟩ | h1)
                · exact absurd h1 hne.1
                · exact absurd hE h1
                · omega
              · rintro (h1 | ⟨h1, _⟩ | h1)
                · exact absurd h1 hne.1
                · exact absurd h1 hne.2
                · omega
            · have e1 : j ∈ early.map (·.1) ↔ j ∈ (early.erase (i', b)).map (·.1) := by
                rw [hpm.mem_iff, List.mem_cons]
                simp [e]
              rw [List.mem_cons, e1]
              simp [e]
          · have hp2 := hperm.mem_iff.2 (List.mem_cons_of_mem _ hp')
            obtain ⟨h1, h2⟩ := h.esub p hp2
            refine ⟨?_, h2⟩
            rcases List.mem_cons.1 h1 with h3 | h3
            · exact absurd (List.mem_map.2 ⟨p, hp', h3⟩) (List.nodup_cons.1 hen).1
            · exact h3
          · by_cases e : d = t
            · subst e
              simp only [look, Nat.beq_refl, cond_true, Option.some.injEq] at hu
              subst hu
              exact h3
            · unfold look at hu
              rw [beq_no e] at hu
              exact h.agree t u hu hp
          · have e1 : List.Perm (eBox als early) (.box b ob :: eBox als (early.erase (i', b))) := by
              have := eBox_perm (als := als) hperm
              rwa [eBox_cons hA] at this
            refine h.st.perm ?_
            refine ((e1.append_left m).append_left qm).trans ?_
            rw [List.cons_append]
            exact ((List.perm_middle (l₁ := m)).append_left qm).trans List.perm_middle
          · simp only [keysB, Bool.and_eq_true]
            exact ⟨blt_iff.2 hdN, h.keys⟩
        obtain ⟨r', pend', early', s', q', m', h6, h7, h8⟩ := ih _ _ _ _ _ _ _ _ hinv
        refine ⟨r', pend', early', s', q', m', h6, ?_, h8⟩
        have := hperm.length_eq
        simp only [List.length_cons] at this h7 ⊢
        omega
      · exact ⟨i :: r, pend, early, s, qm, m, h, rfl, .inr ⟨i, r, rfl, hE, .inr (by rw [hA]; rfl)⟩⟩
    | none =>
      have hE : i ∉ early.map (·.1) := fun hE => by
        obtain ⟨p, hp, rfl⟩ := List.mem_map.1 hE
        obtain ⟨_, d, ob, h2, _⟩ := h.esub p hp
        rw [hA] at h2; cases h2
      by_cases hc : cs.contains i = true
      · exact ⟨i :: r, pend, early, s, qm, m, h, rfl, .inr ⟨i, r, rfl, hE, .inl ⟨hA, hc⟩⟩⟩
      · have hdr : DQG ro P N D L.toArray L cs als k Q (i :: r) w0 O s qm m := h.dr
        unfold DQG at hdr
        rw [hA] at hdr
        obtain ⟨o, d, h1, h2, h3⟩ := hdr
        rw [if_neg hc] at h3
        obtain ⟨v, q1, m1, hqm, h4, h5⟩ := h3
        have hdi : dstAt L i = some d := by rw [dstAt, h1]; exact h2
        obtain ⟨d', hd', hdN, _⟩ := S.dst i hio
        rw [hdi] at hd'
        cases hd'
        have hf := h.fresh i List.mem_cons_self d hdi
        have hinv : InvQ ro P N D w0 O L order cs als k Q r (i :: pend) early ((d, v) :: s) q1 m1 l a w := by
          refine ⟨h.size, h.closed, fun j hj => ?_, fun j hj => h.sub j ?_, hn2, fun p hp => ?_, h.enod, fun j hj => ?_, fun t u hu hp => ?_, freshF hdi, h.asize, h.adef, (by rcases hqm with ⟨rfl, rfl⟩ | ⟨rfl, rfl⟩; exact h.st; exact (by simpa using h.st)), h5, h.chain.2, h.atail.2, ?_⟩
          · rw [h.part j hj]
            simp only [List.mem_cons]
            by_cases e : j = i
            · subst e; simp [hE]
            · simp [e]
          · simp only [List.mem_cons] at hj ⊢
            rcases hj with (h | h) | h
            · exact .inr (.inl h)
            · exact .inl h
            · exact .inr (.inr h)
          · obtain ⟨h1, h2⟩ := h.esub p hp
            refine ⟨?_, h2⟩
            rcases List.mem_cons.1 h1 with h3 | h3
            · exact absurd (List.mem_map.2 ⟨p, hp, h3⟩) hE
            · exact h3
          · rcases List.mem_cons.1 hj with rfl | hj
            · refine ⟨o, d, v, s, m1, h1, h2, by simp [look], h.keys, fun t u hu => ?_, ⟨[], by simp⟩, h4⟩
              unfold look
              have : ¬ d = t := fun e => by subst e; rw [hf] at hu; cases hu
              rw [beq_no this]
              exact hu
            · rcases hqm with ⟨rfl, rfl⟩ | ⟨rfl, rfl⟩
              · exact (h.pd j hj).grow hf []
              · exact (h.pd j hj).grow hf _
          · have hne : ¬ d = t := fun e => hp i List.mem_cons_self (by rw [hdi, e])
            unfold look at hu
            rw [beq_no hne] at hu
            exact h.agree t u hu fun j hj => hp j (List.mem_cons_of_mem _ hj)
          · simp only [keysB, Bool.and_eq_true]
            exact ⟨blt_iff.2 hdN, h.keys⟩
        obtain ⟨r', pend', early', s', q', m', h6, h7, h8⟩ := ih _ _ _ _ _ _ _ _ hinv
        exact ⟨r', pend', early', s', q', m', h6, by simp only [List.length_cons] at h7 ⊢; omega, h8⟩

theorem step_alloc {ops : Array Oper} {i d : Nat} {o : Oper} {ob : Obj} {a : Act} {w : World} {K : Act → World → Prop} (hi : ops[i]? = some o) (hp : plainOp o.op = true) (h : AlOK P o d ob) (hK : K (a.put (some d) (.pointer (some ⟨w.heap.size, 0, none⟩))) (w.alloc ob)) : wpOpIn (FW ro) 0 P ops Q i K a w := by
  have hd : ∀ c, o.op ≠ .defer c := fun c e => by rw [e] at hp; cases hp
  unfold wpOpIn
  simp only [hi]
  have hw : Region.wanted o (yielded ops a.tmps) = true := by simp [Region.wanted, h.guard]
  rw [if_pos hw]
  unfold Oper.wpIn
  rw [Oper.semAt_plain (FW ro) _ o hd, h.run]
  refine ⟨fun _ _ => trivial, ?_⟩
  simp only [Oper.uponIn]
  rw [h.dst]
  exact hK

theorem InvQ.sound (S : Stat L order [] k N s0) (hal : ∀ i d ob, alAt als i = some (d, ob) → ∃ o, L[i]? = some o ∧ AlOK P o d ob) : ∀ (n : Nat) (w0 : World) (O : List Nat) (r pend : List Nat) (early : List (Nat × Nat)) (s : List (Nat × Value)) (qm m : List As) (l : Array Bool) (a : Act) (w : World), InvQ ro P N D w0 O L order cs als k Q r pend early s qm m l a w →
    n + early.length = pend.length + r.length + (L.length - k) → wpAnyIn (FW ro) 0 P .any L.toArray Q n l a w := by
  have hald : ∀ i d ob, alAt als i = some (d, ob) → dstAt L i = some d := fun i d ob h => by
    obtain ⟨o, h1, h2⟩ := hal i d ob h
    rw [dstAt, h1]; exact h2.dst
  intro n
  induction n with
  | zero =>
    intro w0 O r pend early s qm m l a w h hn
    obtain ⟨r, pend, early, s, qm, m, h, hlen, hr⟩ := h.absorb S hald
    have hel := early_len (fun p hp => (h.esub p hp).1) h.enod
    have hr0 : r = [] := by
      rcases hr with rfl | ⟨c, r'', rfl, hc, _⟩
      · rfl
      · have h1 : (c :: early.map (·.1)).length ≤ (c :: r'').length := List.Nodup.length_le_of_subset (List.nodup_cons.2 ⟨hc, h.enod⟩) fun x hx => by
          rcases List.mem_cons.1 hx with rfl | hx
          · exact List.mem_cons_self
          · obtain ⟨p, hp, rfl⟩ := List.mem_map.1 hx
            exact (h.esub p hp).1
        simp only [List.length_cons, List.length_map] at h1 hlen hn
        omega
    subst hr0
    have he0 : early = [] := List.eq_nil_of_length_eq_zero (by simpa using hel)
    subst he0
    have hp : pend = [] := List.eq_nil_of_length_eq_zero (by simp at hlen; omega)
    subst hp
    have hs : Has N s a := ⟨h.asize, fun t u hu => h.agree t u hu (by simp)⟩
    have hst : St w0 O (qm ++ m) w := by simpa [eBox] using h.st
    refine tail_sound S 0 k l a w (by have := S.len; simp at hlen; omega) (Nat.le_refl _) h.size (fun i => ?_) (h.dr a w hs h.adef hst)
    by_cases hi : i < L.length
    · have := h.part i hi
      simp only [List.not_mem_nil, false_or, false_and] at this
      constructor
      · intro hl; exact Nat.lt_of_not_le fun hk => (this.2 hk) hl
      · intro hk; exact Classical.byContradiction fun hl => by have := this.1 hl; omega
    · have hne : ¬ Lst l i := by unfold Lst; simp [Array.getD, h.size, hi]
      have := S.len
      constructor
      · intro h; exact absurd h hne
      · intro h; omega
  | succ n ih =>
    intro w0 O r pend early s qm m l a w h hn
    obtain ⟨r, pend, early, s, qm, m, h, hlen, hr⟩ := h.absorb S hald
    have hn : n + 1 + early.length = pend.length + r.length + (L.length - k) := by omega
    by_cases hdone : pend = [] ∧ r = []
    · obtain ⟨rfl, rfl⟩ := hdone
      have hel := early_len (fun p hp => (h.esub p hp).1) h.enod
      have he0 : early = [] := List.eq_nil_of_length_eq_zero (by simpa using hel)
      subst he0
      have hs : Has N s a := ⟨h.asize, fun t u hu => h.agree t u hu (by simp)⟩
      have hst : St w0 O (qm ++ m) w := by simpa [eBox] using h.st
      refine tail_sound S (n + 1) k l a w (by have := S.len; simp at hn; omega) (Nat.le_refl _) h.size (fun i => ?_) (h.dr a w hs h.adef hst)
      by_cases hi : i < L.length
      · have := h.part i hi
        simp only [List.not_mem_nil, false_or, false_and] at this
        constructor
        · intro hl; exact Nat.lt_of_not_le fun hk => (this.2 hk) hl
        · intro hk; exact Classical.byContradiction fun hl => by have := this.1 hl; omega
      · have hne : ¬ Lst l i := by unfold Lst; simp [Array.getD, h.size, hi]
        have := S.len
        constructor
        · intro h; exact absurd h hne
        · intro h; omega
    · unfold wpAnyIn
      have hex : ∃ q, q ∈ pend ∨ (q ∈ r ∧ q ∉ early.map (·.1)) := by
        cases pend with
        | cons q _ => exact ⟨q, .inl List.mem_cons_self⟩
        | nil =>
          rcases hr with rfl | ⟨c, r'', rfl, hc, _⟩
          · exact absurd ⟨rfl, rfl⟩ hdone
          · exact ⟨c, .inr ⟨List.mem_cons_self, hc⟩⟩
      obtain ⟨q, hq⟩ := hex
      have hqk : q < k := S.ordLt q (h.sub q (hq.imp id (·.1)))
      have hqL : q < L.length := Nat.lt_of_lt_of_le hqk S.len
      have hqu : ¬ Lst l q := (h.part q hqL).2 (hq.elim .inl fun h => .inr (.inl h))
      refine ⟨fun h0 => absurd h0 (some_ready S h.size q hqL hqu), fun i hi => ?_⟩
      rw [ready_iff h.size] at hi
      obtain ⟨h1, h2, h3⟩ := hi
      have hil : i < l.size := by rw [h.size]; exact h1
      have hik : ¬ k ≤ i := fun hk => hqu (sink_all S h.closed hk h1 h3 (i - q) q rfl (by omega))
      have hcl := h.closed.set hil h3
      have hsz : (l.setIfInBounds i true).size = L.length := by simpa using h.size
      -- what an operation looks at is there
      have there : ∀ (si : List (Nat × Value)) (o : Oper), L[i]? = some o → i ∈ order → (∀ t u, look si t = some u → look s t = some u) → ∀ t ∈ o.looksAt L.toArray, ∀ u, look si t = some u → a.tmps.getD t undef = u := by
        intro si o ho hio hsub t ht u hu
        refine h.agree t u (hsub t u hu) fun p hp hpd => ?_
        have hpo := h.sub p (.inl hp)
        have := S.looks i hio p hpo t hpd (by rw [looksAtAt, ho]; exact ht)
        exact ((h.part p (Nat.lt_of_lt_of_le (S.ordLt p hpo) S.len)).2 (.inl hp)) (h3 p this)
      -- the slots of early allocations are no other operation's
      have ekeep : ∀ {d : Nat} {v : Value}, i ∉ early.map (·.1) → i ∈ order → dstAt L i = some d → ∀ p ∈ early, ∃ d2 ob, alAt als p.1 = some (d2, ob) ∧ (a.put (some d) v).tmps.getD d2 undef = .pointer (some ⟨p.2, 0, none⟩) := fun {d v} hie hio hdi p hp => by
        obtain ⟨hpr, d2, ob, h4, h5⟩ := h.esub p hp
        refine ⟨d2, ob, h4, ?_⟩
        have hne : ¬ d = d2 := fun e => by
          subst e
          have := S.apart i hio p.1 (h.sub _ (.inr hpr)) _ hdi (hald _ _ _ h4)
          exact hie (List.mem_map.2 ⟨p, hp, this.symm⟩)
        rw [put_other hne]; exact h5
      rcases (h.part i h1).1 h2 with hip | ⟨hir, hie⟩ | hk
      · -- one whose value is known
        obtain ⟨o, d, v, si, mi, p1, p2, p3, p4, p5, ⟨m', p6⟩, p7⟩ := h.pd i hip
        have hio := h.sub i (.inl hip)
        have hdi : dstAt L i = some d := by rw [dstAt, p1]; exact p2
        obtain ⟨d', hd', hdN, _⟩ := S.dst i hio
        rw [hdi] at hd'
        cases hd'
        have hnd := h.nodup
        rw [List.nodup_append] at hnd
        have hie : i ∉ early.map (·.1) := fun hE => by
          obtain ⟨p, hp, e⟩ := List.mem_map.1 hE
          exact hnd.2.2 i hip p.1 (h.esub p hp).1 e.symm
        have hla := there si o p1 hio p5
        have p6' : List.Perm (qm ++ (m ++ eBox als early)) (mi ++ (m' ++ (qm ++ eBox als early))) := by
          refine ((p6.append_right (eBox als early)).append_left qm).trans ?_
          rw [List.append_assoc, ← List.append_assoc m']
          refine (List.perm_append_comm_assoc _ _ _).trans ?_
          refine List.Perm.append_left mi ?_
          rw [List.append_assoc]
          exact List.perm_append_comm_assoc _ _ _
        have hz := fillA_size si a
        refine step_congr (Q1 := XPost N D w0 O d v (mi ++ (m' ++ (qm ++ eBox als early)))) (a' := fillA si a) (by simpa using p1) (S.plain i o p1) hz (fun t ht => fillA_get h.asize p4 (hla t ht)) (fun e b u hb => ⟨hb.1, by rw [hb.2.1, fillA_defers, h.adef]⟩)
          (p7 w0 O (Reb.refl w0 O) (m' ++ (qm ++ eBox als early)) _ _ (fillA_has si a h.asize p4) (by rw [fillA_defers]; exact h.adef) (h.st.perm p6')) (fun u w' hb => ?_)
        obtain ⟨_, hb2, hb3, hb4⟩ := hb
        rw [p2, put_same (by rw [hz, h.asize]; exact hdN)] at hb3
        subst hb3
        rw [p2]
        refine ih w0 O r (pend.erase i) early s qm m _ _ _ ⟨hsz, hcl, fun j hj => ?_, fun j hj => h.sub j (hj.imp List.mem_of_mem_erase id), ?_, fun p hp => ⟨(h.esub p hp).1, ekeep hie hio hdi p hp⟩, h.enod, fun j hj => h.pd j (List.mem_of_mem_erase hj), fun t u' hu hp => ?_, h.fresh, by simp [Act.put, h.asize], by rw [put_defers]; exact h.adef, hb4.perm p6'.symm, h.dr, h.chain, h.atail, h.keys⟩ ?_
        · rw [lst_set hil, not_or, h.part j hj, hnd.1.mem_erase_iff]
          constructor
          · rintro ⟨hne, hh⟩; exact hh.imp (fun h => ⟨hne, h⟩) id
          · rintro (⟨hne, hh⟩ | hh | hh)
            · exact ⟨hne, .inl hh⟩
            · exact ⟨fun e => hnd.2.2 i hip j hh.1 e.symm, .inr (.inl hh)⟩
            · exact ⟨fun e => hik (e ▸ hh), .inr (.inr hh)⟩
        · rw [List.nodup_append]
          exact ⟨hnd.1.erase i, hnd.2.1, fun x hx y hy => hnd.2.2 x (List.mem_of_mem_erase hx) y hy⟩
        · by_cases e : d = t
          · subst e
            rw [p3] at hu
            cases hu
            exact put_same (by rw [h.asize]; exact hdN)
          · rw [put_other e]
            refine h.agree t u' hu fun j hj hjd => ?_
            by_cases eji : j = i
            · subst eji; rw [hdi] at hjd; cases hjd; exact e rfl
            · exact hp j ((hnd.1.mem_erase_iff).2 ⟨eji, hj⟩) hjd
        · rw [List.length_erase_of_mem hip]
          have := List.length_pos_of_mem hip
          omega
      · have hio := h.sub i (.inr hir)
        cases hA : alAt als i with
        | some pr =>
          -- an allocation, early
          obtain ⟨d, ob⟩ := pr
          obtain ⟨o, p1, hok⟩ := hal i d ob hA
          have hdi := hald i d ob hA
          obtain ⟨d', hd', hdN, _⟩ := S.dst i hio
          rw [hdi] at hd'
          cases hd'
          have hf := h.fresh i hir d hdi
          refine step_alloc (by simpa using p1) (S.plain i o p1) hok ?_
          have hnp : i ∉ pend := fun hip => by
            have hnd := h.nodup
            rw [List.nodup_append] at hnd
            exact hnd.2.2 i hip i hir rfl
          refine ih w0 O r pend ((i, w.heap.size) :: early) s qm m _ _ _ ⟨hsz, hcl, fun j hj => ?_, h.sub, h.nodup, fun p hp => ?_, ?_, h.pd, fun t u' hu hp => ?_, h.fresh, by simp [Act.put, h.asize], by rw [put_defers]; exact h.adef, ?_, h.dr, h.chain, h.atail, h.keys⟩ ?_
          · rw [lst_set hil, not_or, h.part j hj, List.map_cons, List.mem_cons]
            by_cases e : j = i
            · subst e
              constructor
              · rintro ⟨h5, _⟩; exact absurd rfl h5
              · rintro (h5 | ⟨_, h5⟩ | h5)
                · exact absurd h5 hnp
                · exact absurd (.inl rfl) h5
                · exact absurd h5 hik
            · simp [e]
          · rcases List.mem_cons.1 hp with rfl | hp
            · exact ⟨hir, d, ob, hA, put_same (by rw [h.asize]; exact hdN)⟩
            · exact ⟨(h.esub p hp).1, ekeep hie hio hdi p hp⟩
          · rw [List.map_cons]
            exact List.nodup_cons.2 ⟨hie, h.enod⟩
          · have hne : ¬ d = t := fun e => by subst e; rw [hf] at hu; cases hu
            rw [put_other hne]
            exact h.agree t u' hu hp
          · rw [eBox_cons hA]
            refine (h.st.alloc ob).perm ?_
            exact (List.perm_middle (l₁ := qm) |>.symm).trans ((List.perm_middle (l₁ := m)).symm.append_left qm)
          · simp only [List.length_cons]; omega
        | none =>
          -- the next of the chain
          obtain ⟨c, r', rfl, hce, hcc⟩ : ∃ c r'', r = c :: r'' ∧ c ∉ early.map (·.1) ∧ ((alAt als c = none ∧ cs.contains c = true) ∨ (alAt als c).isSome = true) := by
            rcases hr with rfl | hr
            · cases hir
            · exact hr
          have hcn : alAt als c = none ∧ cs.contains c = true := by
            rcases hcc with hcc | hcc
            · exact hcc
            · rcases List.mem_cons.1 hir with e | e
              · subst e; rw [hA] at hcc; cases hcc
              · have := h.atail.1 hcc i e
                rw [hA] at this; cases this
          obtain ⟨hcA, hc⟩ := hcn
          have hic : i = c := by
            rcases List.mem_cons.1 hir with e | e
            · exact e
            · have := h.closed.reach (h.chain.1 hc i e hA) h3
              have hco := h.sub c (.inr List.mem_cons_self)
              exact absurd this ((h.part c (Nat.lt_of_lt_of_le (S.ordLt c hco) S.len)).2 (.inr (.inl ⟨List.mem_cons_self, hce⟩)))
          subst hic
          have hdr : DQG ro P N D L.toArray L cs als k Q (i :: r') w0 O s qm m := h.dr
          unfold DQG at hdr
          rw [hA] at hdr
          obtain ⟨o, d, p1, p2, p3⟩ := hdr
          rw [if_pos hc] at p3
          have hdi : dstAt L i = some d := by rw [dstAt, p1]; exact p2
          obtain ⟨d', hd', hdN, _⟩ := S.dst i hio
          rw [hdi] at hd'
          cases hd'
          have hf := h.fresh i List.mem_cons_self d hdi
          have hla := there s o p1 hio (fun _ _ h => h)
          have hz := fillA_size s a
          refine step_congrP (a' := fillA s a) (by simpa using p1) (S.plain i o p1) hz (fun t ht => fillA_get h.asize h.keys (hla t ht)) (fun e b u hb => ?_) (fun c w' hb => ?_)
            (p3 (eBox als early) _ _ (fillA_has s a h.asize h.keys) (by rw [fillA_defers]; exact h.adef) h.st) (fun u w' hb => ?_)
          · rcases hb with ⟨hb1, hb2, _⟩ | ⟨c, _, _, _, hb1, _⟩
            · exact .inl ⟨hb1, by rw [hb2, fillA_defers, h.adef]⟩
            · exact .inr ⟨c, hb1⟩
          · rcases hb with ⟨hb1, _⟩ | ⟨c', w1, O1, m', hb1, hb2, hb3⟩
            · cases hb1
            · cases hb1
              exact hb3 a w' ⟨h.asize, fun t v hv => by simp [look] at hv⟩ h.adef hb2
          rcases hb with hb | ⟨c, _, _, _, hb1, _⟩
          rotate_left
          · cases hb1
          obtain ⟨_, hb2, w1, O1, v, q1, hreb, hb3, hb4, hb5⟩ := hb
          rw [p2, put_same (by rw [hz, h.asize]; exact hdN)] at hb3
          subst hb3
          rw [p2]
          have hnd := h.nodup
          have hnd2 := (List.perm_middle (l₁ := pend)).nodup_iff.1 hnd
          have hne : i ∉ pend ++ r' := (List.nodup_cons.1 hnd2).1
          refine ih w1 O1 r' pend early ((d, u) :: s) q1 m _ _ _ ⟨hsz, hcl, fun j hj => ?_, fun j hj => h.sub j (hj.imp id (List.mem_cons_of_mem _)), (List.nodup_cons.1 hnd2).2, fun p hp => ⟨?_, ekeep hie hio hdi p hp⟩, h.enod, fun j hj => ((h.pd j hj).grow hf []).move hreb, fun t u' hu hp => ?_, fun j hj e he => ?_, by simp [Act.put, h.asize], by rw [put_defers]; exact h.adef, hb4, hb5, h.chain.2, h.atail.2, ?_⟩ ?_
          · rw [lst_set hil, not_or, h.part j hj, List.mem_cons]
            simp only [List.mem_append, not_or] at hne
            constructor
            · rintro ⟨hji, hh | hh | hh⟩
              · exact .inl hh
              · rcases hh.1 with h9 | h9
                · exact absurd h9 hji
                · exact .inr (.inl ⟨h9, hh.2⟩)
              · exact .inr (.inr hh)
            · rintro (hh | hh | hh)
              · exact ⟨fun e => hne.1 (e ▸ hh), .inl hh⟩
              · exact ⟨fun e => hne.2 (e ▸ hh.1), .inr (.inl ⟨.inr hh.1, hh.2⟩)⟩
              · exact ⟨fun e => hik (e ▸ hh), .inr (.inr hh)⟩
          · rcases List.mem_cons.1 (h.esub p hp).1 with h9 | h9
            · exact absurd (List.mem_map.2 ⟨p, hp, h9⟩) hie
            · exact h9
          · by_cases e : d = t
            · subst e
              simp only [look, Nat.beq_refl, cond_true, Option.some.injEq] at hu
              subst hu
              exact put_same (by rw [h.asize]; exact hdN)
            · rw [put_other e]
              unfold look at hu
              rw [beq_no e] at hu
              exact h.agree t u' hu hp
          · have hne' : ¬ d = e := fun e' => by
              subst e'
              have := S.apart i hio j (h.sub j (.inr (List.mem_cons_of_mem _ hj))) d hdi he
              subst this
              exact hne (List.mem_append.2 (.inr hj))
            unfold look
            rw [beq_no hne']
            exact h.fresh j (List.mem_cons_of_mem _ hj) e he
          · simp only [keysB, Bool.and_eq_true]
            exact ⟨blt_iff.2 hdN, h.keys⟩
          · simp only [List.length_cons] at hn; omega
      · exact absurd hk hik

def okE (L : List Oper) (order cs : List Nat) (als : Als) (k N : Nat) (s : List (Nat × Value)) : Bool := okD L order [] k N s && (chainE L cs als order && atailB als order)
/-- A REGION THAT DRAWS ITS ORDER. order: the operations ahead of the last ones, cs: those of them that make blocks, als: allocations that only the last ones look at; the rest waits for all. -/
theorem GC_drawQP {id : Nat} {m q0 m0 : List As} (order cs : List Nat) (als : Als) (k : Nat) (hq : ∀ w, St w0 O m w → St w0 O (q0 ++ m0) w) (hm : P.follows .mixedOrders = true) (hok : okE L order cs als k N s0 = true) (hal : ∀ i d ob, alAt als i = some (d, ob) → ∃ o, L[i]? = some o ∧ AlOK P o d ob)
    (h0 : ∀ ops, OpsEq ops L → DQ ro P N D w0 O ops L cs als k Q order s0 q0 m0) : GC ro P N D w0 O (.region id L.toArray true) s0 m Q := fun a w hs hd hst => by
  simp only [okE, Bool.and_eq_true] at hok
  have S := okD_spec hok.1
  refine wpIn_region_any hm (InvQ.sound (D := D) (cs := cs) S hal _ w0 O order [] [] s0 q0 m0 _ _ _ ?_ ?_)
  · have hno : ∀ i, ¬ Lst (Array.replicate L.toArray.size false) i := fun i => by
      unfold Lst
      by_cases h : i < L.length
      · simp [Array.getD, h]
      · simp [Array.getD, h]
    refine ⟨by simp, fun i hi => absurd hi (hno i), fun i hi => ?_, fun i hi => hi.elim (by simp) (fun h => h), by simpa using S.nodup, by simp, by simp, by simp, fun t u hu _ => hs.at_ t u hu, fun i hi d hd => ?_, hs.size, hd, by simpa [eBox] using hq _ hst.drew, h0 _ ⟨rfl⟩, chainE_spec hok.2.1, atailB_spec hok.2.2, S.keys⟩
    · simp only [hno i, not_false_eq_true, true_iff, List.not_mem_nil, false_or, List.map_nil, and_true]
      by_cases hk : i < k
      · exact .inl (S.ordMem i hk)
      · exact .inr (by omega)
    · obtain ⟨d', h1, _, h2⟩ := S.dst i hi
      rw [hd] at h1
      cases h1
      exact h2
  · have := S.len
    simp [S.ordLen]
    omega
end

section
variable {ro : Option Nat} {P : Program} {N : Nat} {D : List Deferred} {w0 : World} {O : List Nat} {s : List (Nat × Value)} {m : List As} {Q : Exit → Act → World → Prop}
/-- q ++ m, told -/
class AppA (q m : List As) (all : outParam (List As)) : Prop where
  eq : q ++ m = all
instance appA_nil {m : List As} : AppA [] m m := ⟨rfl⟩
instance appA_cons {x : As} {q m a : List As} [h : AppA q m a] : AppA (x :: q) m (x :: a) := ⟨by rw [List.cons_append, h.eq]⟩
instance (priority := low) appA_any {q m : List As} : AppA q m (q ++ m) := ⟨rfl⟩
/-- m2 = q ++ m, q told -/
class SufA (m2 m : List As) (q : outParam (List As)) : Prop where
  eq : m2 = q ++ m
instance (priority := high) sufA_here {m : List As} : SufA m m [] := ⟨rfl⟩
instance (priority := low) sufA_cons {x : As} {m2 m q : List As} [h : SufA m2 m q] : SufA (x :: m2) m (x :: q) := ⟨by rw [List.cons_append, ← h.eq]⟩
section
variable {ops : Array Oper} {L : List Oper} {cs : List Nat} {als : Als} {k : Nat} {q am : List As}
theorem DQ_nil {l : List Oper} (hl : L.drop k = l) [ha : AppA q m am] (h : G ro P N D w0 O ops l s am Q) : DQ ro P N D w0 O ops L cs als k Q [] s q m := by
  subst hl
  have e := ha.eq
  subst e
  exact h
theorem DQ_step {i : Nat} {r : List Nat} (hA : alAt als i = none) (h : ∃ o d, L[i]? = some o ∧ o.dst = some d ∧
      if cs.contains i = true then ∀ mf, G ro P N D w0 O ops [o] s (q ++ (m ++ mf)) (CPostQ N D w0 O d (m ++ mf) Q fun w1 O1 v q' => DQG ro P N D ops L cs als k Q r w1 O1 ((d, v) :: s) q' m)
      else ∃ v q1 m1, (q1 = q ∧ m1 = m ∨ q1 = [] ∧ m1 = q ++ m) ∧ (∀ w1 O1, Reb w0 O w1 O1 → ∀ m', G ro P N D w1 O1 ops [o] s (m1 ++ m') (XPost N D w1 O1 d v (m1 ++ m'))) ∧ DQG ro P N D ops L cs als k Q r w0 O ((d, v) :: s) q1 m1) :
    DQ ro P N D w0 O ops L cs als k Q (i :: r) s q m := by
  unfold DQ DQG
  rw [hA]
  exact h
/-- an allocation that the last operations alone look at -/
theorem DQ_al {i d : Nat} {r : List Nat} {ob : Obj} (hA : alAt als i = some (d, ob)) (h : ∀ b, DQ ro P N D w0 O ops L cs als k Q r ((d, .pointer (some ⟨b, 0, none⟩)) :: s) (.box b ob :: q) m) : DQ ro P N D w0 O ops L cs als k Q (i :: r) s q m := by
  unfold DQ DQG
  rw [hA]
  exact h
theorem DQ_x {i : Nat} {r : List Nat} {o : Oper} {d : Nat} {v : Value} (ho : L[i]? = some o) (hd : o.dst = some d) (hc : cs.contains i = false) (hA : alAt als i = none) [ha : AppA q m am]
    (h : ∀ w1 O1, Reb w0 O w1 O1 → ∀ m', G ro P N D w1 O1 ops [o] s (am ++ m') (XPost N D w1 O1 d v (am ++ m'))) (hr : DQ ro P N D w0 O ops L cs als k Q r ((d, v) :: s) [] am) : DQ ro P N D w0 O ops L cs als k Q (i :: r) s q m := by
  have e := ha.eq
  subst e
  exact DQ_step hA ⟨o, d, ho, hd, by rw [if_neg (by simp only [hc]; decide)]; exact ⟨v, [], q ++ m, .inr ⟨rfl, rfl⟩, h, hr⟩⟩
/-- operations that look at no memory -/
def keepB : Op → Bool
  | .field _ _ _ => true
  | .move _ => true
  | .assign _ => true
  | .extract _ _ => true
  | .fieldAddr _ _ _ => true
  | _ => false
theorem DQ_k {i : Nat} {r : List Nat} {op : Op} {ty : TypeId} {p : String} {af : Array Edge} {d : Nat} {v : Value} (ho : L[i]? = some ⟨some d, op, ty, p, af, none⟩) (hk : keepB op = true) (hc : cs.contains i = false) (hA : alAt als i = none)
    (h : ∀ w1 O1, Reb w0 O w1 O1 → ∀ m', G ro P N D w1 O1 ops [⟨some d, op, ty, p, af, none⟩] s (m ++ m') (XPost N D w1 O1 d v (m ++ m'))) (hr : DQ ro P N D w0 O ops L cs als k Q r ((d, v) :: s) q m) : DQ ro P N D w0 O ops L cs als k Q (i :: r) s q m :=
  DQ_step hA ⟨_, d, ho, rfl, by rw [if_neg (by simp only [hc]; decide)]; exact ⟨v, q, m, .inl ⟨rfl, rfl⟩, h, hr⟩⟩
/-- .. that looks at what is left alone only -/
theorem DQ_m {i : Nat} {r : List Nat} {o : Oper} {d : Nat} {v : Value} {f : List As → List As} (ho : L[i]? = some o) (hd : o.dst = some d) (hc : cs.contains i = false) (hA : alAt als i = none) [hf : ∀ m', AppA m m' (f m')]
    (h : ∀ w1 O1, Reb w0 O w1 O1 → ∀ m', G ro P N D w1 O1 ops [o] s (f m') (XPost N D w1 O1 d v (f m'))) (hr : DQ ro P N D w0 O ops L cs als k Q r ((d, v) :: s) q m) : DQ ro P N D w0 O ops L cs als k Q (i :: r) s q m :=
  DQ_step hA ⟨o, d, ho, hd, by rw [if_neg (by simp only [hc]; decide)]; exact ⟨v, q, m, .inl ⟨rfl, rfl⟩, fun w1 O1 hr1 m' => by rw [(hf m').eq]; exact h w1 O1 hr1 m', hr⟩⟩
/-- .. that looks at memory; its form laid open -/
theorem DQ_y {i : Nat} {r : List Nat} {o : Oper} {d : Nat} {v : Value} {f : List As → List As} (ho : L[i]? = some o) (hd : o.dst = some d) (hc : cs.contains i = false) (hA : alAt als i = none) [ha : AppA q m am] [hf : ∀ m', AppA am m' (f m')]
    (h : ∀ w1 O1, Reb w0 O w1 O1 → ∀ m', G ro P N D w1 O1 ops [o] s (f m') (XPost N D w1 O1 d v (f m'))) (hr : DQ ro P N D w0 O ops L cs als k Q r ((d, v) :: s) [] am) : DQ ro P N D w0 O ops L cs als k Q (i :: r) s q m :=
  DQ_x ho hd hc hA (fun w1 O1 hr1 m' => by rw [(hf m').eq]; exact h w1 O1 hr1 m') hr
theorem DQ_c {i : Nat} {r : List Nat} {o : Oper} {d : Nat} (ho : L[i]? = some o) (hd : o.dst = some d) (hc : cs.contains i = true) (hA : alAt als i = none) {f g : List As → List As} [ha : AppA q m am] [hf : ∀ mf, AppA am mf (f mf)] [hg : ∀ mf, AppA m mf (g mf)]
    (h : ∀ mf, G ro P N D w0 O ops [o] s (f mf) (CPostQ N D w0 O d (g mf) Q fun w1 O1 v q' => DQ ro P N D w1 O1 ops L cs als k Q r ((d, v) :: s) q' m)) : DQ ro P N D w0 O ops L cs als k Q (i :: r) s q m := by
  have e := ha.eq
  subst e
  refine DQ_step hA ⟨o, d, ho, hd, ?_⟩
  rw [if_pos hc]
  intro mf
  have h1 := h mf
  rw [← (hf mf).eq, ← (hg mf).eq, List.append_assoc] at h1
  exact h1
end
theorem C_doneD {d : Nat} {v : Value} {m2 q' : List As} {s' : List (Nat × Value)} {wa : World} {Oa : List Nat} {R : World → List Nat → Value → List As → Prop} (hv : look s' d = some v) [hb : RebX wa Oa w0 O] [hq : SufA m2 m q'] (h : R w0 O v q') :
    At N D w0 O .normal s' m2 (CPostQ N D wa Oa d m Q R) := fun a w hs hd hw => by
  have e := hq.eq
  subst e
  exact .inl ⟨rfl, hd, w0, O, v, q', hb.h, hs.at_ d v hv, hw, h⟩
/-- an operation of the chain panics -/
theorem At_dqPanic {d : Nat} {c : List PanicEntry} {m2 : List As} {s' : List (Nat × Value)} {wa : World} {Oa : List Nat} {R : World → List Nat → Value → List As → Prop} (h : At N D w0 O (.panic c) [] m2 Q) : At N D w0 O (.panic c) s' m2 (CPostQ N D wa Oa d m Q R) := fun a w hs hd hw => .inr ⟨c, w0, O, m2, rfl, hw, h⟩
end
attribute [irreducible] DQ CPostQ
end Go.Proofs.Ytnncjfphdcfimaa
/- Regions that draw their order, by themselves: which operations go first, which make blocks, is a table by program. -/
set_option linter.unusedVariables false
set_option linter.unusedSimpArgs false
namespace Go.Proofs.Ytnncjfphdcfimaa
open Go.RowKit

/-- of the drawing region id whose first operation stands at p and fills slot d: the order of those that go first, those of them that make blocks, how many they are, the slots they fill -/
class DrawI (p : String) (id d : Nat) (order cs : outParam (List Nat)) (k : outParam Nat) (ds : outParam (List Nat)) : Prop where
  ok : True

def dropS (ks : List Nat) : List (Nat × Value) → List (Nat × Value)
  | [] => []
  | (k, v) :: r => bif memN k ks then dropS ks r else (k, v) :: dropS ks r
theorem look_dropS {ks : List Nat} : ∀ {s : List (Nat × Value)} {t : Nat} {v : Value}, look (dropS ks s) t = some v → look s t = some v
  | [], t, v, h => h
  | (k, u) :: r, t, v, h => by
    unfold dropS at h
    cases hm : memN k ks with
    | true =>
      rw [hm] at h
      simp only [cond_true] at h
      have h1 := look_dropS h
      have hk : ¬ k = t := by
        rintro rfl
        have : ∀ {s : List (Nat × Value)}, look (dropS ks s) k = none := by
          intro s
          induction s with
          | nil => rfl
          | cons p r ih =>
            obtain ⟨j, w⟩ := p
            unfold dropS
            cases hj : memN j ks with
            | true => simpa using ih
            | false =>
              simp only [cond_false]
              unfold look
              have : ¬ j = k := by rintro rfl; rw [hm] at hj; cases hj
              rw [beq_no this]; exact ih
        rw [this] at h; cases h
      unfold look
      rw [beq_no hk]; exact h1
    | false =>
      rw [hm] at h
      simp only [cond_false] at h
      unfold look at h ⊢
      by_cases e : k = t
      · subst e; simpa using h
      · rw [beq_no e] at h ⊢
        exact look_dropS h

section
variable {ro : Option Nat} {P : Program} {N : Nat} {D : List Deferred} {w0 : World} {O : List Nat} {s s1 : List (Nat × Value)} {m : List As} {Q : Exit → Act → World → Prop}

class MixedR (P : Program) : Prop where
  ok : P.follows .mixedOrders = true

/-- rows apart from all else -/
class RowsM (m : List As) (q m0 : outParam (List As)) : Prop where
  ent : Ent m (q ++ m0)
instance rowsM_nil : RowsM [] [] [] := ⟨Ent.refl _⟩
instance (priority := low) rowsM_any {m : List As} : RowsM m [] m := ⟨Ent.refl _⟩
instance (priority := high) rowsM_row {α : Type} [Elt α] {v : Value} {e : TypeId} {l : List α} {m q m0 : List As} [h : RowsM m q m0] : RowsM (row v e l :: m) (row v e l :: q) m0 := ⟨h.ent.cons _⟩
instance (priority := high) rowsM_lit {α : Type} [Elt α] {v : Value} {e : TypeId} {l : List α} {m q m0 : List As} [h : RowsM m q m0] : RowsM (lit v e l :: m) (lit v e l :: q) m0 := ⟨h.ent.cons _⟩
instance rowsM_there {x : As} {m q m0 : List As} [h : RowsM m q m0] : RowsM (x :: m) q (x :: m0) := ⟨(h.ent.cons x).trans (Ent.perm List.perm_middle.symm)⟩
theorem GC_drawI {id d : Nat} {o : Op} {ty : TypeId} {p : String} {af : Array Edge} {g : Option (Nat × Bool)} {r : List Oper} {order cs ds : List Nat} {k : Nat} {q0 m0 : List As} [hx : MixedR P] [hi : DrawI p id d order cs k ds] [hsp : RowsM m q0 m0]
    (h0 : ∀ (ops : Array Oper) [RegionR ops (⟨some d, o, ty, p, af, g⟩ :: r)], DQ ro P N D w0 O ops (⟨some d, o, ty, p, af, g⟩ :: r) cs [] k Q order s1 q0 m0)
    (hs : dropS ds s = s1 := by (try simp only [dropS, memN, slots, Nat.reduceBEq, Bool.or_false, Bool.or_true, Bool.false_or, Bool.true_or, cond_true, cond_false]); exact rfl) (hok : okE (⟨some d, o, ty, p, af, g⟩ :: r) order cs [] k N s1 = true := by kernel_rfl) :
    GC ro P N D w0 O (.region id (⟨some d, o, ty, p, af, g⟩ :: r).toArray true) s m Q := fun a w hsa hd hm => by
  subst hs
  exact GC_drawQP order cs [] k (fun w hw => hsp.ent.st hw) hx.ok hok (fun _ _ _ h => by cases h) (fun ops h => @h0 ops ⟨h.eq⟩) a w ⟨hsa.size, fun t v h => hsa.at_ t v (look_dropS h)⟩ hd hm
/-! allocations that the last operations alone look at: index, slot, type -/
class AlT (P : Program) (T : TypeId) (ob : outParam Obj) : Prop where
  run : ∀ (ρ : Operand → Value) (d : Nat) (ty : TypeId) (p : String) (af : Array Edge) (w : World), (execOp ρ ⟨some d, .alloc T, ty, p, af, none⟩).run P w = .ok (.value (.pointer (some ⟨w.heap.size, 0, none⟩))) (w.alloc ob)
instance alT_one {T : TypeId} {z : Value} [hS : Sc P T z] : AlT P T (.cells #[z] T) := ⟨fun ρ d ty p af w => by simp [execOp, Instr.alloc, run_zero hS, newVar, newRow, cells_one hS.one]⟩
instance alT_agg {T : TypeId} {zs : List Value} [hS : Ag P T zs] : AlT P T (.cells zs.toArray T) := ⟨fun ρ d ty p af w => by simp [execOp, Instr.alloc, run_zeroA hS, newVar, newRow, Value.cells]⟩
class AlsT (P : Program) (al : List (Nat × Nat × Nat)) (als : outParam Als) : Prop where
  len : als.map (fun x => (x.1, x.2.1)) = al.map (fun x => (x.1, x.2.1))
  ok : ∀ i d ob, alAt als i = some (d, ob) → ∃ T, (i, d, T) ∈ al ∧ ∀ (ρ : Operand → Value) (ty : TypeId) (p : String) (af : Array Edge) (w : World), (execOp ρ ⟨some d, .alloc T, ty, p, af, none⟩).run P w = .ok (.value (.pointer (some ⟨w.heap.size, 0, none⟩))) (w.alloc ob)
instance alsT_nil : AlsT P [] [] := ⟨rfl, fun _ _ _ h => by cases h⟩
instance alsT_cons {i d T : Nat} {ob : Obj} {al : List (Nat × Nat × Nat)} {als : Als} [h : AlT P T ob] [h' : AlsT P al als] : AlsT P ((i, d, T) :: al) ((i, d, ob) :: als) := ⟨by simp [h'.len], fun j e o ho => by
  unfold alAt at ho
  by_cases hij : i = j
  · subst hij
    simp only [Nat.beq_refl, cond_true, Option.some.injEq, Prod.mk.injEq] at ho
    obtain ⟨rfl, rfl⟩ := ho
    exact ⟨T, List.mem_cons_self, fun ρ ty p af w => h.run ρ _ ty p af w⟩
  · rw [beq_no hij] at ho
    obtain ⟨T', h1, h2⟩ := h'.ok j e o ho
    exact ⟨T', List.mem_cons_of_mem _ h1, h2⟩⟩
/-- they stand so in the region -/
def alsB (L : List Oper) (al : List (Nat × Nat × Nat)) : Bool := al.all fun x => match L[x.1]? with
  | some ⟨some d, .alloc T, _, _, _, none⟩ => Nat.beq d x.2.1 && Nat.beq T x.2.2
  | _ => false
theorem alsB_spec {L : List Oper} {al : List (Nat × Nat × Nat)} (h : alsB L al = true) {i d T : Nat} (hm : (i, d, T) ∈ al) : ∃ ty p af, L[i]? = some ⟨some d, .alloc T, ty, p, af, none⟩ := by
  have h1 := List.all_eq_true.1 h _ hm
  simp only at h1
  split at h1
  · rename_i d' T' ty p af ho
    simp only [Bool.and_eq_true] at h1
    obtain ⟨h2, h3⟩ := h1
    rw [beq_iff.1 h2, beq_iff.1 h3] at ho
    exact ⟨ty, p, af, ho⟩
  · cases h1
/-- .. of the drawing region id whose first operation stands at p and fills slot d -/
class DrawJ (p : String) (id d : Nat) (order cs : outParam (List Nat)) (al : outParam (List (Nat × Nat × Nat))) (k : outParam Nat) (ds : outParam (List Nat)) : Prop where
  ok : True
theorem GC_drawJ {id d : Nat} {o : Op} {ty : TypeId} {p : String} {af : Array Edge} {g : Option (Nat × Bool)} {r : List Oper} {order cs ds : List Nat} {al : List (Nat × Nat × Nat)} {als : Als} {k : Nat} {q0 m0 : List As} [hx : MixedR P] [hi : DrawJ p id d order cs al k ds] [ha : AlsT P al als] [hsp : RowsM m q0 m0]
    (h0 : ∀ (ops : Array Oper) [RegionR ops (⟨some d, o, ty, p, af, g⟩ :: r)], DQ ro P N D w0 O ops (⟨some d, o, ty, p, af, g⟩ :: r) cs als k Q order s1 q0 m0)
    (hs : dropS ds s = s1 := by (try simp only [dropS, memN, slots, Nat.reduceBEq, Bool.or_false, Bool.or_true, Bool.false_or, Bool.true_or, cond_true, cond_false]); exact rfl) (hok : okE (⟨some d, o, ty, p, af, g⟩ :: r) order cs als k N s1 = true := by kernel_rfl) (hb : alsB (⟨some d, o, ty, p, af, g⟩ :: r) al = true := by kernel_rfl) :
    GC ro P N D w0 O (.region id (⟨some d, o, ty, p, af, g⟩ :: r).toArray true) s m Q := fun a w hsa hd hm => by
  subst hs
  exact GC_drawQP order cs als k (fun w hw => hsp.ent.st hw) hx.ok hok (fun i e ob h => by
    obtain ⟨T, h1, h2⟩ := ha.ok i e ob h
    obtain ⟨ty', p', af', h3⟩ := alsB_spec hb h1
    exact ⟨_, h3, ⟨rfl, rfl, fun ρ w => h2 ρ ty' p' af' w⟩⟩) (fun ops h => @h0 ops ⟨h.eq⟩) a w ⟨hsa.size, fun t v h => hsa.at_ t v (look_dropS h)⟩ hd hm
/-- .. q0 is what the chain alone passes on -/
theorem GC_drawP {id d : Nat} {o : Op} {ty : TypeId} {p : String} {af : Array Edge} {g : Option (Nat × Bool)} {r : List Oper} {order cs ds : List Nat} {k : Nat} {m0 : List As} (q0 : List As) [hx : MixedR P] [hi : DrawI p id d order cs k ds] [hsp : SplitM m q0 m0]
    (h0 : ∀ (ops : Array Oper) [RegionR ops (⟨some d, o, ty, p, af, g⟩ :: r)], DQ ro P N D w0 O ops (⟨some d, o, ty, p, af, g⟩ :: r) cs [] k Q order s1 q0 m0)
    (hs : dropS ds s = s1 := by (try simp only [dropS, memN, slots, Nat.reduceBEq, Bool.or_false, Bool.or_true, Bool.false_or, Bool.true_or, cond_true, cond_false]); exact rfl) (hok : okE (⟨some d, o, ty, p, af, g⟩ :: r) order cs [] k N s1 = true := by kernel_rfl) :
    GC ro P N D w0 O (.region id (⟨some d, o, ty, p, af, g⟩ :: r).toArray true) s m Q := fun a w hsa hd hm => by
  subst hs
  exact GC_drawQP order cs [] k (fun w hw => hsp.ent.st hw) hx.ok hok (fun _ _ _ h => by cases h) (fun ops h => @h0 ops ⟨h.eq⟩) a w ⟨hsa.size, fun t v h => hsa.at_ t v (look_dropS h)⟩ hd hm

theorem DR_idx {α : Type} [Elt α] {ops : Array Oper} {L : List Oper} {cs : List Nat} {als : Als} {k i d : Nat} {r : List Nat} {t e ty : TypeId} {x y : Operand} {p : String} {af : Array Edge} {v : Value} {kx : IntKind} {z : Int} {j : Nat} {sd : Prop} {l : List α} {q am : List As} (ho : L[i]? = some ⟨some d, .indexAddr t x y, ty, p, af, none⟩) (hc : cs.contains i = false) (hA : alAt als i = none)
    [ht : Und P t (.slice e)] [hL : Lay P e α] (hx : ev s x = some v) (hy : ev s y = some (.int kx z)) (hN : Nat.blt d N = true) [ha : AppA q m am] [h : RdR w0 O am v l] [hj : NatR z j sd]
    (hr : [Fct (j < l.length)] → DQ ro P N D w0 O ops L cs als k Q r ((d, .pointer (some (elP α v j))) :: s) [] am) (hs : sd ∧ j < l.length := by first | exact trivial | omega | (simp only [true_and, and_true, and_self]; omega) | exact ⟨trivial, rfl⟩ | exact ⟨rfl, rfl, by decide⟩ | rfl | (simp only [true_and, and_true, and_self]; done) | decide | assumption | exact ⟨by assumption, by omega⟩ | exact ⟨by assumption, by assumption⟩ | exact ⟨by assumption, by assumption, by omega⟩) : DQ ro P N D w0 O ops L cs als k Q (i :: r) s q m :=
  DQ_x ho rfl hc hA (fun w1 O1 hr1 m' => by
    have h2 : RdR w1 O1 (am ++ m') v l := ⟨fun w hw => h.rd w ((hr1.st hw).drop (List.sublist_append_left _ _))⟩
    exact G_idxR hx hy hN (G_nil (X_done (by simp [look]) (List.Sublist.refl _))) hs) (@hr ⟨hs.2⟩)

/-- .. under a guard that holds -/
theorem DR_idxG {ops : Array Oper} {L : List Oper} {cs : List Nat} {als : Als} {k i d : Nat} {r : List Nat} {t ty : TypeId} {x y : Operand} {p : String} {af : Array Edge} {b : Bool} {j0 d' : Nat} {lr : List Oper} {q : List As} (ho : L[i]? = some ⟨some d, .indexAddr t x y, ty, p, af, some (j0, b)⟩) [hr : RegionR ops lr]
    (k' : GAt ops j0 d' (DQ ro P N D w0 O ops L cs als k Q (i :: r) s q m)) (hj : (lr[j0]?).bind (·.dst) = some d' := by rfl) : DQ ro P N D w0 O ops L cs als k Q (i :: r) s q m := k' (by rw [hr.eq]; simpa using hj)
theorem DR_idxT {α : Type} [Elt α] {ops : Array Oper} {L : List Oper} {cs : List Nat} {als : Als} {k i d j0 d' : Nat} {gv : Value} {r : List Nat} {t e ty : TypeId} {x y : Operand} {p : String} {af : Array Edge} {v : Value} {kx : IntKind} {z : Int} {j : Nat} {sd : Prop} {l : List α} {q am : List As}
    (hg : look s d' = some gv) [hT : TrueV gv] (ho : L[i]? = some ⟨some d, .indexAddr t x y, ty, p, af, some (j0, true)⟩) (hc : cs.contains i = false) (hA : alAt als i = none)
    [ht : Und P t (.slice e)] [hL : Lay P e α] (hx : ev s x = some v) (hy : ev s y = some (.int kx z)) (hN : Nat.blt d N = true) [ha : AppA q m am] [h : RdR w0 O am v l] [hj : NatR z j sd]
    (hr : [Fct (j < l.length)] → DQ ro P N D w0 O ops L cs als k Q r ((d, .pointer (some (elP α v j))) :: s) [] am) (hs : sd ∧ j < l.length := by first | exact trivial | omega | (simp only [true_and, and_true, and_self]; omega) | exact ⟨trivial, rfl⟩ | exact ⟨rfl, rfl, by decide⟩ | rfl | (simp only [true_and, and_true, and_self]; done) | decide | assumption | exact ⟨by assumption, by omega⟩ | exact ⟨by assumption, by assumption⟩ | exact ⟨by assumption, by assumption, by omega⟩) : GAt ops j0 d' (DQ ro P N D w0 O ops L cs als k Q (i :: r) s q m) := fun hjd =>
  DQ_x ho rfl hc hA (fun w1 O1 hr1 m' => by
    have h2 : RdR w1 O1 (am ++ m') v l := ⟨fun w hw => h.rd w ((hr1.st hw).drop (List.sublist_append_left _ _))⟩
    exact G_guardT hg (G_idxR hx hy hN (G_nil (X_done (by simp [look]) (List.Sublist.refl _))) hs) (by simp) hjd) (@hr ⟨hs.2⟩)

theorem G_nilC {ops : Array Oper} {s' : List (Nat × Value)} {m' : List As} {d : Nat} {wa : World} {Oa : List Nat} {R : World → List Nat → Value → List As → Prop} (h : At N D w0 O .normal s' m' (CPostQ N D wa Oa d m Q R)) : G ro P N D w0 O ops [] s' m' (CPostQ N D wa Oa d m Q R) := G_nil h
section
variable {α : Type} [Elt α] {ops : Array Oper} {L : List Oper} {cs : List Nat} {als : Als} {k i d : Nat} {r : List Nat} {t e ty : TypeId} {x y y' : Operand} {p : String} {af : Array Edge} {v : Value} {z z' : Int} {j j' : Nat} {sd sd' : Prop} {l : List α} {q am : List As}
theorem DR_cutLo (ho : L[i]? = some ⟨some d, .slice t x (some y) none none, ty, p, af, none⟩) (hc : cs.contains i = false) (hA : alAt als i = none)
    [ht : Und P t (.slice e)] [hL : Lay P e α] (hx : ev s x = some v) (hy : ev s y = some (I z)) (hN : Nat.blt d N = true) [ha : AppA q m am] [h : RdR w0 O am v l] [hj : NatR z j sd]
    (hr : [Fct (j ≤ l.length ∧ l.length ≤ l.length)] → DQ ro P N D w0 O ops L cs als k Q r ((d, cut α v j l.length) :: s) [] am) (hs : sd ∧ j ≤ l.length := by first | exact trivial | omega | (simp only [true_and, and_true, and_self]; omega) | exact ⟨trivial, rfl⟩ | exact ⟨rfl, rfl, by decide⟩ | rfl | (simp only [true_and, and_true, and_self]; done) | decide | assumption | exact ⟨by assumption, by omega⟩ | exact ⟨by assumption, by assumption⟩ | exact ⟨by assumption, by assumption, by omega⟩) : DQ ro P N D w0 O ops L cs als k Q (i :: r) s q m :=
  DQ_x ho rfl hc hA (fun w1 O1 hr1 m' => by
    have h2 : RdR w1 O1 (am ++ m') v l := ⟨fun w hw => h.rd w ((hr1.st hw).drop (List.sublist_append_left _ _))⟩
    exact G_cutLo hx hy hN (G_nil (X_done (by simp [look]) (List.Sublist.refl _))) hs) (@hr ⟨hs.2, Nat.le_refl _⟩)
/-- .. under a guard that holds -/
theorem DR_sliceG {o : Op} {b : Bool} {dst : Option Nat} {j0 d' : Nat} {lr : List Oper} {x1 : Operand} {y1 y2 y3 : Option Operand} (ho : L[i]? = some ⟨some d, .slice t x1 y1 y2 y3, ty, p, af, some (j0, b)⟩) [hr : RegionR ops lr]
    (k' : GAt ops j0 d' (DQ ro P N D w0 O ops L cs als k Q (i :: r) s q m)) (hj : (lr[j0]?).bind (·.dst) = some d' := by rfl) : DQ ro P N D w0 O ops L cs als k Q (i :: r) s q m := k' (by rw [hr.eq]; simpa using hj)
theorem DR_cutLoT {j0 d' : Nat} {gv : Value} (hg : look s d' = some gv) [hT : TrueV gv] (ho : L[i]? = some ⟨some d, .slice t x (some y) none none, ty, p, af, some (j0, true)⟩) (hc : cs.contains i = false) (hA : alAt als i = none)
    [ht : Und P t (.slice e)] [hL : Lay P e α] (hx : ev s x = some v) (hy : ev s y = some (I z)) (hN : Nat.blt d N = true) [ha : AppA q m am] [h : RdR w0 O am v l] [hj : NatR z j sd]
    (hr : [Fct (j ≤ l.length ∧ l.length ≤ l.length)] → DQ ro P N D w0 O ops L cs als k Q r ((d, cut α v j l.length) :: s) [] am) (hs : sd ∧ j ≤ l.length := by first | exact trivial | omega | (simp only [true_and, and_true, and_self]; omega) | exact ⟨trivial, rfl⟩ | exact ⟨rfl, rfl, by decide⟩ | rfl | (simp only [true_and, and_true, and_self]; done) | decide | assumption | exact ⟨by assumption, by omega⟩ | exact ⟨by assumption, by assumption⟩ | exact ⟨by assumption, by assumption, by omega⟩) : GAt ops j0 d' (DQ ro P N D w0 O ops L cs als k Q (i :: r) s q m) := fun hjd =>
  DQ_x ho rfl hc hA (fun w1 O1 hr1 m' => by
    have h2 : RdR w1 O1 (am ++ m') v l := ⟨fun w hw => h.rd w ((hr1.st hw).drop (List.sublist_append_left _ _))⟩
    exact G_guardT hg (G_cutLo hx hy hN (G_nil (X_done (by simp [look]) (List.Sublist.refl _))) hs) (by simp) hjd) (@hr ⟨hs.2, Nat.le_refl _⟩)
theorem DR_cutHi (ho : L[i]? = some ⟨some d, .slice t x none (some y) none, ty, p, af, none⟩) (hc : cs.contains i = false) (hA : alAt als i = none)
    [ht : Und P t (.slice e)] [hL : Lay P e α] (hx : ev s x = some v) (hy : ev s y = some (I z)) (hN : Nat.blt d N = true) [ha : AppA q m am] [h : RdR w0 O am v l] [hj : NatR z j sd]
    (hr : [Fct (0 ≤ j ∧ j ≤ l.length)] → DQ ro P N D w0 O ops L cs als k Q r ((d, cut α v 0 j) :: s) [] am) (hs : sd ∧ j ≤ l.length := by first | exact trivial | omega | (simp only [true_and, and_true, and_self]; omega) | exact ⟨trivial, rfl⟩ | exact ⟨rfl, rfl, by decide⟩ | rfl | (simp only [true_and, and_true, and_self]; done) | decide | assumption | exact ⟨by assumption, by omega⟩ | exact ⟨by assumption, by assumption⟩ | exact ⟨by assumption, by assumption, by omega⟩) : DQ ro P N D w0 O ops L cs als k Q (i :: r) s q m :=
  DQ_x ho rfl hc hA (fun w1 O1 hr1 m' => by
    have h2 : RdR w1 O1 (am ++ m') v l := ⟨fun w hw => h.rd w ((hr1.st hw).drop (List.sublist_append_left _ _))⟩
    exact G_cutHi hx hy hN (G_nil (X_done (by simp [look]) (List.Sublist.refl _))) hs) (@hr ⟨Nat.zero_le _, hs.2⟩)
theorem DR_cutBoth (ho : L[i]? = some ⟨some d, .slice t x (some y) (some y') none, ty, p, af, none⟩) (hc : cs.contains i = false) (hA : alAt als i = none)
    [ht : Und P t (.slice e)] [hL : Lay P e α] (hx : ev s x = some v) (hy : ev s y = some (I z)) (hz : ev s y' = some (I z')) (hN : Nat.blt d N = true) [ha : AppA q m am] [h : RdR w0 O am v l] [hj : NatR z j sd] [hj' : NatR z' j' sd']
    (hr : [Fct (j ≤ j' ∧ j' ≤ l.length)] → DQ ro P N D w0 O ops L cs als k Q r ((d, cut α v j j') :: s) [] am) (hs : (sd ∧ sd') ∧ j ≤ j' ∧ j' ≤ l.length := by first | exact trivial | omega | (simp only [true_and, and_true, and_self]; omega) | exact ⟨trivial, rfl⟩ | exact ⟨rfl, rfl, by decide⟩ | rfl | (simp only [true_and, and_true, and_self]; done) | decide | assumption | exact ⟨by assumption, by omega⟩ | exact ⟨by assumption, by assumption⟩ | exact ⟨by assumption, by assumption, by omega⟩) : DQ ro P N D w0 O ops L cs als k Q (i :: r) s q m :=
  DQ_x ho rfl hc hA (fun w1 O1 hr1 m' => by
    have h2 : RdR w1 O1 (am ++ m') v l := ⟨fun w hw => h.rd w ((hr1.st hw).drop (List.sublist_append_left _ _))⟩
    exact G_cutBoth hx hy hz hN (G_nil (X_done (by simp [look]) (List.Sublist.refl _))) hs) (@hr ⟨hs.2⟩)
end
end

section
variable {α : Type} [Elt α] {w0 : World} {O : List Nat} {v : Value} {xs : List α} {x : As} {r l : List As}
instance rdR_app [h : RdR w0 O (x :: (r ++ l)) v xs] : RdR w0 O ((x :: r) ++ l) v xs := h
instance rdR_app0 [h : RdR w0 O l v xs] : RdR w0 O ([] ++ l) v xs := h
end
section
variable {ro : Option Nat} {P : Program} {N : Nat} {D : List Deferred} {w0 : World} {O : List Nat} {ops : Array Oper} {l : List Oper} {s : List (Nat × Value)} {m : List As} {Q : Exit → Act → World → Prop}
variable {d : Option Nat} {ty : TypeId} {pos : String} {af : Array Edge}
theorem Is_G (h : G ro P N D w0 O ops l s m Q) : G ro P N D w0 O ops l s m Q := h
theorem Is_GC {c : Code} (h : GC ro P N D w0 O c s m Q) : GC ro P N D w0 O c s m Q := h
theorem Is_At {e : Exit} (h : At N D w0 O e s m Q) : At N D w0 O e s m Q := h
theorem Is_GAt {j d' : Nat} {X : Prop} (h : GAt ops j d' X) : GAt ops j d' X := h
theorem Is_cond {c : Operand} {x y : Code} (h : GC ro P N D w0 O (.cond c x y) s m Q) : GC ro P N D w0 O (.cond c x y) s m Q := h
theorem Is_callv {c : Operand} {x : Array Operand} {t : Array TypeId} (h : G ro P N D w0 O ops (⟨d, .call ⟨.value c, x, t⟩, ty, pos, af, none⟩ :: l) s m Q) : G ro P N D w0 O ops (⟨d, .call ⟨.value c, x, t⟩, ty, pos, af, none⟩ :: l) s m Q := h
theorem Is_alloc {t : TypeId} (h : G ro P N D w0 O ops (⟨d, .alloc t, ty, pos, af, none⟩ :: l) s m Q) : G ro P N D w0 O ops (⟨d, .alloc t, ty, pos, af, none⟩ :: l) s m Q := h
theorem Is_make {t : TypeId} {x y : Operand} (h : G ro P N D w0 O ops (⟨d, .makeSlice t x y, ty, pos, af, none⟩ :: l) s m Q) : G ro P N D w0 O ops (⟨d, .makeSlice t x y, ty, pos, af, none⟩ :: l) s m Q := h
theorem Is_box {t : TypeId} {x : Operand} (h : G ro P N D w0 O ops (⟨d, .box t x, ty, pos, af, none⟩ :: l) s m Q) : G ro P N D w0 O ops (⟨d, .box t x, ty, pos, af, none⟩ :: l) s m Q := h
theorem Is_build {t : TypeId} {x : Array (Nat × Operand)} (h : G ro P N D w0 O ops (⟨d, .build t x, ty, pos, af, none⟩ :: l) s m Q) : G ro P N D w0 O ops (⟨d, .build t x, ty, pos, af, none⟩ :: l) s m Q := h
theorem Is_lit {t : TypeId} {n : Nat} {x : Array (Nat × Operand)} (h : G ro P N D w0 O ops (⟨d, .buildSlice t n x, ty, pos, af, none⟩ :: l) s m Q) : G ro P N D w0 O ops (⟨d, .buildSlice t n x, ty, pos, af, none⟩ :: l) s m Q := h
theorem Is_slice {t : TypeId} {x : Operand} {a b c : Option Operand} (h : G ro P N D w0 O ops (⟨d, .slice t x a b c, ty, pos, af, none⟩ :: l) s m Q) : G ro P N D w0 O ops (⟨d, .slice t x a b c, ty, pos, af, none⟩ :: l) s m Q := h
end
end Go.Proofs.Ytnncjfphdcfimaa
/- Structs and variables in memory, by classes. -/
set_option linter.unusedVariables false
set_option linter.unusedSimpArgs false
namespace Go.Proofs.Ytnncjfphdcfimaa
open Go.RowKit

/-! ### Values of one cell; the cells of a value -/
/-- v is a slice's value. -/
class SlcR (w0 : World) (O : List Nat) (m : List As) (v : Value) : Prop where
  slc : ∀ w, St w0 O m w → ∃ A n c, v = .slice A n c
class OneW (w0 : World) (O : List Nat) (m : List As) (v : Value) : Prop where
  one : ∀ w, St w0 O m w → v.oneCell' = true
class AllW (w0 : World) (O : List Nat) (m : List As) (cs : List Value) : Prop where
  all : ∀ w, St w0 O m w → ∀ c ∈ cs, c.oneCell' = true
class PartR (w0 : World) (O : List Nat) (m : List As) (v : Value) (cs : outParam (List Value)) : Prop where
  part : ∀ w, St w0 O m w → v.cells = cs.toArray ∧ ∀ c ∈ cs, c.oneCell' = true

section
variable {w0 : World} {O : List Nat} {m : List As} {v : Value}
instance (priority := high) slcR_mk (A : Option Addr) (n c : Nat) : SlcR w0 O m (.slice A n c) := ⟨fun _ _ => ⟨A, n, c, rfl⟩⟩
theorem slc_of_rd {α : Type} [Elt α] {w : World} {l : List α} (h : RdL w v l) : ∃ A n c, v = .slice A n c := by
  obtain ⟨A, c, h, _⟩ := h.form; exact ⟨A, _, c, h⟩
instance (priority := high) slcR_row {α : Type} [Elt α] {e : TypeId} {l : List α} : SlcR w0 O (row v e l :: m) v := ⟨fun w hw => slc_of_rd (rdR_here (w0 := w0) (O := O) (v := v) (e := e) (l := l) (m := m) |>.rd w hw)⟩
instance (priority := high) slcR_lit {α : Type} [Elt α] {e : TypeId} {l : List α} : SlcR w0 O (lit v e l :: m) v := ⟨fun w hw => slc_of_rd (rdR_lit (w0 := w0) (O := O) (v := v) (e := e) (l := l) (m := m) |>.rd w hw)⟩
instance slcR_old {α : Type} [Elt α] {l : List α} [h : RdOld w0 O v l] : SlcR w0 O m v := ⟨fun w hw => slc_of_rd (h.old.now w hw : RdL w v l)⟩
instance slcR_cut {α : Type} [Elt α] {lo hi : Nat} [h : SlcR w0 O m v] : SlcR w0 O m (cut α v lo hi) := ⟨fun w hw => by
  obtain ⟨A, n, c, rfl⟩ := h.slc w hw; exact ⟨_, _, _, rfl⟩⟩
instance slcR_clip [h : SlcR w0 O m v] : SlcR w0 O m (clipV v) := ⟨fun w hw => by
  obtain ⟨A, n, c, rfl⟩ := h.slc w hw; exact ⟨_, _, _, rfl⟩⟩
instance (priority := low) slcR_there {x : As} [h : SlcR w0 O m v] : SlcR w0 O (x :: m) v := ⟨fun w hw => h.slc w (hw.drop (List.sublist_cons_self _ _))⟩

instance oneW_int (k : IntKind) (n : Int) : OneW w0 O m (.int k n) := ⟨fun _ _ => rfl⟩
instance oneW_bool (b : Bool) : OneW w0 O m (.bool b) := ⟨fun _ _ => rfl⟩
instance oneW_str (b : ByteArray) : OneW w0 O m (.string b) := ⟨fun _ _ => rfl⟩
instance oneW_ptr (b : Option Addr) : OneW w0 O m (.pointer b) := ⟨fun _ _ => rfl⟩
instance oneW_map (b : Option Nat) : OneW w0 O m (.map b) := ⟨fun _ _ => rfl⟩
instance oneW_func (f : Fn) (a b : Array Value) : OneW w0 O m (.func f a b) := ⟨fun _ _ => rfl⟩
instance oneW_nilFunc : OneW w0 O m .nilFunc := ⟨fun _ _ => rfl⟩
instance oneW_nilIface : OneW w0 O m .nilIface := ⟨fun _ _ => rfl⟩
instance oneW_iface (t : TypeId) (v : Value) : OneW w0 O m (.iface t v) := ⟨fun _ _ => rfl⟩
instance (priority := low) oneW_slc [h : SlcR w0 O m v] : OneW w0 O m v := ⟨fun w hw => by obtain ⟨A, n, c, rfl⟩ := h.slc w hw; rfl⟩
instance allW_nil : AllW w0 O m [] := ⟨fun _ _ c h => by simp at h⟩
instance allW_cons {c : Value} {cs : List Value} [h : OneW w0 O m c] [h' : AllW w0 O m cs] : AllW w0 O m (c :: cs) := ⟨fun w hw x hx => by
  rcases List.mem_cons.1 hx with rfl | hx
  · exact h.one w hw
  · exact h'.all w hw x hx⟩
instance partR_agg {cs : List Value} [h : AllW w0 O m cs] : PartR w0 O m (.agg cs.toArray) cs := ⟨fun w hw => ⟨rfl, h.all w hw⟩⟩
instance (priority := low) partR_one [h : OneW w0 O m v] : PartR w0 O m v [v] := ⟨fun w hw => ⟨cells_one (h.one w hw), fun c hc => by
  rw [List.mem_singleton.1 hc]; exact h.one w hw⟩⟩
end
/-- the cells of several values, with where they belong -/
class PartsR (w0 : World) (O : List Nat) (m : List As) (vs : List (Nat × Value)) (ics : outParam (List (Nat × List Value))) : Prop where
  parts : ∀ w, St w0 O m w → vs.map (fun x => (x.1, x.2.cells)) = ics.map (fun x => (x.1, x.2.toArray)) ∧ ∀ x ∈ ics, ∀ c ∈ x.2, c.oneCell' = true
instance partsR_nil {w0 : World} {O : List Nat} {m : List As} : PartsR w0 O m [] [] := ⟨fun _ _ => ⟨rfl, fun _ h => by simp at h⟩⟩
instance partsR_cons {w0 : World} {O : List Nat} {m : List As} {i : Nat} {v : Value} {cs : List Value} {vs : List (Nat × Value)} {ics : List (Nat × List Value)} [h : PartR w0 O m v cs] [h' : PartsR w0 O m vs ics] : PartsR w0 O m ((i, v) :: vs) ((i, cs) :: ics) := ⟨fun w hw => by
  obtain ⟨h1, h2⟩ := h.part w hw
  obtain ⟨h3, h4⟩ := h'.parts w hw
  refine ⟨by simp [h1, h3], fun x hx => ?_⟩
  rcases List.mem_cons.1 hx with rfl | hx
  · exact h2
  · exact h4 x hx⟩

/-! ### Cells laid over cells -/
def splice : Nat → List Value → List Value → List Value
  | 0, [], zs => zs
  | 0, u :: us, _ :: zs => u :: splice 0 us zs
  | n + 1, us, z :: zs => z :: splice n us zs
  | _, _, [] => []
theorem splice_eq : ∀ (off : Nat) (us zs : List Value), off + us.length ≤ zs.length → splice off us zs = zs.take off ++ us ++ zs.drop (off + us.length)
  | 0, [], zs, _ => by unfold splice; simp
  | 0, u :: us, z :: zs, h => by
    unfold splice
    simp only [List.length_cons] at h
    rw [splice_eq 0 us zs (by omega)]
    simp only [List.take_zero, List.nil_append, Nat.zero_add, List.length_cons, List.drop_succ_cons, List.cons_append]
  | 0, u :: us, [], h => by simp at h
  | n + 1, us, z :: zs, h => by
    unfold splice
    simp only [List.length_cons] at h
    rw [splice_eq n us zs (by omega)]
    simp only [List.take_succ_cons, List.cons_append, show n + 1 + us.length = (n + us.length) + 1 by omega, List.drop_succ_cons]
  | n + 1, us, [], h => by simp at h

theorem foldl_splice : ∀ (us : List Value) (k off : Nat) (cs : List Value), off + k + us.length ≤ cs.length →
    ((us.zipIdx k).foldl (fun (cs : Array Value) (x : Value × Nat) => cs.setIfInBounds (off + x.2) x.1) cs.toArray) = (splice (off + k) us cs).toArray
  | [], k, off, cs, h => by
    rw [splice_eq _ _ _ h]; simp
  | u :: us, k, off, cs, h => by
    simp only [List.length_cons] at h
    simp only [List.zipIdx_cons, List.foldl_cons]
    have e1 : cs.toArray.setIfInBounds (off + k) u = (cs.set (off + k) u).toArray := by apply Array.ext'; simp
    rw [e1, foldl_splice us (k + 1) off _ (by simp; omega), splice_eq _ _ _ (by simp; omega), splice_eq _ _ _ (by simp; omega)]
    congr 1
    have hlt : off + k < cs.length := by omega
    rw [show off + (k + 1) = off + k + 1 by omega, List.take_succ_eq_append_getElem (by simpa using hlt), List.take_set, List.getElem_set_self, List.set_eq_of_length_le (by simp; omega), List.drop_set, if_pos (by omega)]
    simp only [List.length_cons, List.append_assoc, List.singleton_append, List.cons_append, List.nil_append]
    rw [show off + k + 1 + us.length = off + k + (us.length + 1) by omega]

def fillC (places : List (Nat × Nat)) : List Value → List (Nat × List Value) → Option (List Value)
  | zs, [] => some zs
  | zs, (i, us) :: r => match places[i]? with
    | none => none
    | some p => bif Nat.beq us.length p.2 && Nat.ble (p.1 + us.length) zs.length then fillC places (splice p.1 us zs) r else none
theorem fillC_fill {pl : Nat → Option (Nat × Nat)} {places : List (Nat × Nat)} (hpl : ∀ i p, places[i]? = some p → pl i = some p) : ∀ (ics : List (Nat × List Value)) (vs : List (Nat × Value)) (zs cs : List Value),
    vs.map (fun x => (x.1, x.2.cells)) = ics.map (fun x => (x.1, x.2.toArray)) → fillC places zs ics = some cs → Instr.fill pl zs.toArray vs = some cs.toArray
  | [], [], zs, cs, _, h => by simp only [fillC, Option.some.injEq] at h; subst h; rfl
  | [], _ :: _, _, _, h, _ => by simp at h
  | _ :: _, [], _, _, h, _ => by simp at h
  | (i, us) :: r, (j, v) :: vs, zs, cs, hm, h => by
    simp only [List.map_cons, List.cons.injEq, Prod.mk.injEq] at hm
    obtain ⟨⟨rfl, hv⟩, hm⟩ := hm
    unfold fillC at h
    split at h
    · cases h
    · rename_i p hp
      cases hc : (Nat.beq us.length p.2 && Nat.ble (p.1 + us.length) zs.length) with
      | false => rw [hc] at h; simp at h
      | true =>
        rw [hc] at h
        simp only [cond_true] at h
        simp only [Bool.and_eq_true] at hc
        have h1 := Nat.eq_of_beq_eq_true hc.1
        have h2 := Nat.le_of_ble_eq_true hc.2
        rw [Instr.fill, hpl j p hp]
        obtain ⟨off, n⟩ := p
        simp only at h1 h2 h ⊢
        have hcond : ¬ ((v.cells.size ≠ n || decide (off + v.cells.size > zs.toArray.size)) = true) := by
          rw [hv]; simp; omega
        rw [if_neg (by simpa using hcond), hv]
        have := foldl_splice us 0 off zs (by omega)
        simp only [Nat.add_zero] at this
        have e2 : (us.toArray.zipIdx.foldl (fun cs (x : Value × Nat) => cs.setIfInBounds (off + x.2) x.1) zs.toArray) = (splice off us zs).toArray := by
          rw [← this, ← Array.foldl_toList]; simp
        have e3 := fillC_fill hpl r vs _ cs hm h
        rw [← e2] at e3
        exact e3

/-- a struct's, an array's parts: where they lie, of how many cells; the zero value's cells -/
class BldI (P : Program) (t : TypeId) (places : outParam (List (Nat × Nat))) (zs : outParam (List Value)) : Prop where
  run : ∀ (parts : List (Nat × Value)) (ics : List (Nat × List Value)) (cs : List Value) (w : World), parts.map (fun x => (x.1, x.2.cells)) = ics.map (fun x => (x.1, x.2.toArray)) → fillC places zs ics = some cs → (Instr.build t parts.toArray).run P w = .ok (.agg cs.toArray) w

theorem BldI.of_struct {P : Program} {t : TypeId} {places : List (Nat × Nat)} {zs : List Value} [hA : Ag P t zs] (h : (match P.underlying t with | some (.struct fs) => fs.toList.mapM (fun f => (P.info? f.type).map fun i => (f.offset, i.size)) | _ => none) = some places) : BldI P t places zs := ⟨fun parts ics cs w hm hf => by
  obtain ⟨i, h1, h2, h3⟩ := hA.info
  have hfill := fillC_fill (pl := fun i => places.toArray[i]?) (fun i p hp => by simpa using hp) ics parts zs cs hm hf
  refine run_build w t _ _ ?_
  split at h
  · rename_i fs hu
    simp only [Program.built, h1, hu, h2, h]
    simpa [Value.cells] using hfill
  · cases h⟩
theorem BldI.of_array {P : Program} {t e : TypeId} {n s : Nat} {places : List (Nat × Nat)} {zs : List Value} [hA : Ag P t zs] (hu : P.underlying t = some (.array n e)) (he : (P.info? e).map (·.size) = some s) (hp : (List.range n).map (fun i => (i * s, s)) = places) : BldI P t places zs := ⟨fun parts ics cs w hm hf => by
  obtain ⟨i, h1, h2, h3⟩ := hA.info
  cases hie : P.info? e with
  | none => rw [hie] at he; cases he
  | some ie =>
    rw [hie] at he
    simp only [Option.map_some, Option.some.injEq] at he
    subst he
    have hfill := fillC_fill (pl := fun i => some (i * ie.size, ie.size)) (fun i p hip => by
      subst hp
      rw [List.getElem?_map] at hip
      cases hr : (List.range n)[i]? with
      | none => rw [hr] at hip; cases hip
      | some q =>
        rw [hr] at hip
        simp only [Option.map_some, Option.some.injEq] at hip
        have hq : q = i := by
          obtain ⟨hl, hq⟩ := List.getElem?_eq_some_iff.1 hr
          rw [List.getElem_range] at hq; exact hq.symm
        subst hq; rw [← hip]) ics parts zs cs hm hf
    refine run_build w t _ _ ?_
    simp only [Program.built, h1, hu, h2, hie]
    simpa [Value.cells] using hfill⟩

/-! ### The rules -/
section
variable {ro : Option Nat} {P : Program} {N : Nat} {D : List Deferred} {w0 : World} {O : List Nat} {ops : Array Oper} {l : List Oper} {s : List (Nat × Value)} {m : List As} {Q : Exit → Act → World → Prop}
variable {d : Nat} {ty : TypeId} {pos : String} {af : Array Edge}

/-- a variable's box -/
theorem G_boxR {t : TypeId} {x : Operand} {v : Value} {cs : List Value} (hx : ev s x = some v) (hN : Nat.blt d N = true) [hp : PartR w0 O m v cs] (k : ∀ b, G ro P N D w0 O ops l ((d, .pointer (some ⟨b, 0, none⟩)) :: s) (.box b (.cells cs.toArray t) :: m) Q) :
    G ro P N D w0 O ops (⟨some d, .box t x, ty, pos, af, none⟩ :: l) s m Q := fun a w hs hd hm =>
  G_box hx hN (fun b => by rw [(hp.part w hm).1]; exact k b) a w hs hd hm

def evP (s : List (Nat × Value)) : List (Nat × Operand) → Option (List (Nat × Value))
  | [] => some []
  | (i, x) :: r => match ev s x, evP s r with
    | some v, some vs => some ((i, v) :: vs)
    | _, _ => none
theorem evP_map {s : List (Nat × Value)} {a : Act} (h : Has N s a) : ∀ {xs : List (Nat × Operand)} {vs : List (Nat × Value)}, evP s xs = some vs → xs.map (fun x => (x.1, a.eval x.2)) = vs
  | [], vs, e => by simp [evP] at e; simp [e]
  | (i, x) :: r, vs, e => by
    simp only [evP] at e
    split at e
    · rename_i v us h1 h2
      simp only [Option.some.injEq] at e
      subst e
      simp [h.ev h1, evP_map h h2]
    · cases e
theorem G_buildR {t : TypeId} {parts : Array (Nat × Operand)} {places : List (Nat × Nat)} {zs cs : List Value} {ics : List (Nat × List Value)} {ivs : List (Nat × Value)} [hb : BldI P t places zs] (hv : evP s parts.toList = some ivs) (hN : Nat.blt d N = true) [hp : PartsR w0 O m ivs ics]
    (k : G ro P N D w0 O ops l ((d, .agg cs.toArray) :: s) m Q) (hf : fillC places zs ics = some cs := by (simp only [fillC, splice, List.getElem?_cons_zero, List.getElem?_cons_succ, List.length_cons, List.length_nil, Nat.reduceAdd, Nat.reduceBEq, Nat.beq, Nat.ble, Bool.and_self, Bool.and_true, Bool.true_and, cond_true]; try exact rfl)) : G ro P N D w0 O ops (⟨some d, .build t parts, ty, pos, af, none⟩ :: l) s m Q := fun a w hs hd hm => by
  refine G_val (.agg cs.toArray) rfl rfl (by simp) hN (fun a' w' hs' hm' => ?_) k a w hs hd hm
  have hp' : (parts.map fun (i, x) => (i, a'.eval x)) = ivs.toArray := by
    apply Array.ext'
    rw [← evP_map hs' hv]
    simp
  simp only [execOp, hp', Sem.run_bind, hb.run _ ics cs w' (hp.parts w' hm').1 hf, Result.andThen, Sem.run_pure]

def nthV : List Value → Nat → Option Value
  | [], _ => none
  | v :: _, 0 => some v
  | _ :: r, n + 1 => nthV r n
theorem nthV_eq : ∀ (l : List Value) (n : Nat), nthV l n = l[n]?
  | [], _ => by simp [nthV]
  | v :: r, 0 => by simp [nthV]
  | v :: r, n + 1 => by simp [nthV, nthV_eq r n]
/-- a cell of a variable is read -/
theorem G_loadB {t e : TypeId} {z v : Value} {x : Operand} {b off : Nat} {cs : List Value} {mk : Nat × Nat} [hS : Sc P t z] (hx : ev s x = some (.pointer (some ⟨b, off, none⟩))) [hm : Held b m (.cells cs.toArray e mk)] (hc : nthV cs off = some v) (hN : Nat.blt d N = true)
    (k : G ro P N D w0 O ops l ((d, v) :: s) m Q) : G ro P N D w0 O ops (⟨some d, .load t x, ty, pos, af, none⟩ :: l) s m Q :=
  G_load hx (cs := cs.toArray) (by rw [nthV_eq] at hc; simpa using hc) hN k

/-- the place and the type of a struct's field -/
def fieldTyB (P : Program) (t : TypeId) (i off ft : Nat) : Bool := match P.underlying t with
  | some (.struct fs) => match fs[i]? with
    | some f => f.offset == off && f.type == ft
    | none => false
  | _ => false
class FldI (P : Program) (t : TypeId) (i : Nat) (off ft : outParam Nat) : Prop where
  ok : fieldTyB P t i off ft = true
theorem run_field {P : Program} {w : World} {t : TypeId} {i off ft : Nat} {vs : Array Value} {v : Value} [h : FldI P t i off ft] (hp : (part ft vs off).run P w = .ok v w) : (Instr.field t (.agg vs) i).run P w = .ok v w := by
  have h := h.ok
  unfold fieldTyB at h
  split at h
  · rename_i fs hu
    split at h
    · rename_i f hf
      simp only [Bool.and_eq_true, beq_iff_eq] at h
      obtain ⟨rfl, rfl⟩ := h
      simp [Instr.field, Ytnncjfphdcfimaa.run_underlying hu, hf, asAgg, hp]
    · cases h
  · cases h
/-- a field of a struct's value -/
theorem G_fieldS {t : TypeId} {i off ft : Nat} {z v : Value} {vs : List Value} {x : Operand} [hf : FldI P t i off ft] [hS : Sc P ft z] (hx : ev s x = some (.agg vs.toArray)) (hv : nthV vs off = some v) (hN : Nat.blt d N = true)
    (k : G ro P N D w0 O ops l ((d, v) :: s) m Q) : G ro P N D w0 O ops (⟨some d, .field t x i, ty, pos, af, none⟩ :: l) s m Q :=
  G_field hx (fun w => run_field (by rw [nthV_eq] at hv; simp [part, run_isAgg hS, hv])) hN k
theorem G_fieldG {t : TypeId} {i off ft : Nat} {zs us vs : List Value} {x : Operand} [hf : FldI P t i off ft] [hS : Ag P ft zs] (hx : ev s x = some (.agg vs.toArray)) (hv : (vs.drop off).take zs.length = us) (hN : Nat.blt d N = true)
    (k : G ro P N D w0 O ops l ((d, .agg us.toArray) :: s) m Q) : G ro P N D w0 O ops (⟨some d, .field t x i, ty, pos, af, none⟩ :: l) s m Q :=
  G_field hx (fun w => run_field (by
    have e : vs.toArray.extract off (off + zs.length) = us.toArray := by rw [← hv]; apply Array.ext'; simp [List.extract_eq_take_drop, Nat.add_sub_cancel_left]
    simp [part, run_isAggA hS, run_sizeOfA hS, hv])) hN k
theorem Is_field {t : TypeId} {x : Operand} {i : Nat} (h : G ro P N D w0 O ops (⟨some d, .field t x i, ty, pos, af, none⟩ :: l) s m Q) : G ro P N D w0 O ops (⟨some d, .field t x i, ty, pos, af, none⟩ :: l) s m Q := h

/-- a part of a tuple -/
theorem G_extractT {x : Operand} {i : Nat} {vs : List Value} {v : Value} (hx : ev s x = some (.tuple vs.toArray)) (hi : nthV vs i = some v) (hN : Nat.blt d N = true) (k : G ro P N D w0 O ops l ((d, v) :: s) m Q) :
    G ro P N D w0 O ops (⟨some d, .extract x i, ty, pos, af, none⟩ :: l) s m Q := G_extract hx (by rw [nthV_eq] at hi; simpa using hi) hN k

/-- a cell of a variable is written -/
theorem G_storeW {t e : TypeId} {z v u : Value} {x y : Operand} {b off : Nat} {cs cs' : List Value} {m' : List As} [hS : Sc P t z] (hx : ev s x = some (.pointer (some ⟨b, off, none⟩))) (hy : ev s y = some v)
    [hh : Held b m (.cells cs.toArray e)] [h1 : OneW w0 O m v] (hc : cs[off]? = some u) [hm : PutC b (.cells cs'.toArray e) m m'] (k : G ro P N D w0 O ops l s m' Q) (hcs : cs.set off v = cs' := by (simp only [Nat.zero_add, Nat.add_zero, Nat.reduceAdd, List.set_cons_zero, List.set_cons_succ]; try exact rfl)) : G ro P N D w0 O ops (⟨none, .store t x y, ty, pos, af, none⟩ :: l) s m Q := fun a w hs hd hw =>
  G_store hx hy (h1.one w hw) (b := b) (off := off) (cs := cs.toArray) (u := u) (by simpa using hc) (cs' := cs'.toArray) (by rw [← hcs]; apply Array.ext'; simp) k a w hs hd hw

/-- a whole variable is written -/
theorem G_storeAW {t e : TypeId} {zs vs cs : List Value} {x y : Operand} {b : Nat} {m' : List As} [hS : Ag P t zs] (hx : ev s x = some (.pointer (some ⟨b, 0, none⟩))) (hy : ev s y = some (.agg vs.toArray)) (hl : Nat.beq vs.length zs.length = true)
    [hh : Held b m (.cells cs.toArray e)] [h1 : AllW w0 O m vs] [hm : PutC b (.cells vs.toArray e) m m'] (hc : Nat.beq cs.length zs.length = true) (k : G ro P N D w0 O ops l s m' Q) : G ro P N D w0 O ops (⟨none, .store t x y, ty, pos, af, none⟩ :: l) s m Q := fun a w hs hd hw =>
  G_storeA (vs := vs) hx hy hl (by simpa using h1.all w hw) (cs := cs.toArray) (by simpa using Nat.eq_of_beq_eq_true hc) k a w hs hd hw

/-- a whole variable is read -/
theorem G_loadA0 {t e : TypeId} {zs cs : List Value} {x : Operand} {b : Nat} {mk : Nat × Nat} [hS : Ag P t zs] (hx : ev s x = some (.pointer (some ⟨b, 0, none⟩))) [hm : Held b m (.cells cs.toArray e mk)]
    (hl : Nat.beq cs.length zs.length = true) (hN : Nat.blt d N = true) (k : G ro P N D w0 O ops l ((d, .agg cs.toArray) :: s) m Q) : G ro P N D w0 O ops (⟨some d, .load t x, ty, pos, af, none⟩ :: l) s m Q :=
  G_loadA (vs := cs) hx (by simp [← Nat.eq_of_beq_eq_true hl]) hl hN k
/-- a struct within a variable is read -/
theorem G_loadAP {t e : TypeId} {zs cs vs : List Value} {x : Operand} {b off : Nat} {mk : Nat × Nat} [hS : Ag P t zs] (hx : ev s x = some (.pointer (some ⟨b, off, none⟩))) [hm : Held b m (.cells cs.toArray e mk)] (hN : Nat.blt d N = true)
    (k : G ro P N D w0 O ops l ((d, .agg vs.toArray) :: s) m Q) (hv : (cs.drop off).take zs.length = vs := by (simp only [Nat.zero_add, Nat.add_zero, List.drop_succ_cons, List.drop_zero, List.take_succ_cons, List.take_zero, List.length_cons, List.length_nil, Nat.reduceAdd]; try exact rfl)) (hl : Nat.beq vs.length zs.length = true := by rfl) : G ro P N D w0 O ops (⟨some d, .load t x, ty, pos, af, none⟩ :: l) s m Q :=
  G_loadA (vs := vs) hx (by simpa using hv) hl hN k
end

/-! ### Strings -/
/-- a string's byte -/
def byteAt (l : List UInt8) (j : Nat) : BitVec 8 := (l.getD j 0).toBitVec
section
variable {ro : Option Nat} {P : Program} {N : Nat} {D : List Deferred} {w0 : World} {O : List Nat} {ops : Array Oper} {lo : List Oper} {s : List (Nat × Value)} {m : List As} {Q : Exit → Act → World → Prop}
variable {d : Nat} {ty : TypeId} {pos : String} {af : Array Edge}
theorem G_strIdx {t : TypeId} {x y : Operand} {l : List UInt8} {kx : IntKind} {i : Int} {j : Nat} {sd : Prop} [ht : Und P t .string] (hx : ev s x = some (.string ⟨l.toArray⟩)) (hy : ev s y = some (.int kx i)) (hN : Nat.blt d N = true) [hj : NatR i j sd]
    (k : G ro P N D w0 O ops lo ((d, B8 (byteAt l j)) :: s) m Q) (hs : sd ∧ j < l.length := by first | exact trivial | omega | (simp only [true_and, and_true, and_self]; omega) | exact ⟨trivial, rfl⟩ | exact ⟨rfl, rfl, by decide⟩ | rfl | (simp only [true_and, and_true, and_self]; done) | decide | assumption | exact ⟨by assumption, by omega⟩ | exact ⟨by assumption, by assumption⟩ | exact ⟨by assumption, by assumption, by omega⟩) : G ro P N D w0 O ops (⟨some d, .index t x y, ty, pos, af, none⟩ :: lo) s m Q :=
  G_val _ rfl rfl (by simp) hN (fun a w hs' hm => by
    have e1 := hj.eq hs.1
    subst e1
    have h0 : (0 : Int) ≤ (j : Int) := by omega
    have h1 : (⟨l.toArray⟩ : ByteArray)[(j : Int).toNat]? = some l[j] := by
      rw [Int.toNat_natCast, getElem?_pos _ j hs.2]
      rfl
    have e2 : byteAt l j = (l[j]'hs.2).toBitVec := by
      unfold byteAt
      simp [List.getD, hs.2]
    have h2 : (Instr.index t (.string ⟨l.toArray⟩) (.int kx (j : Int))).run P w = .ok (B8 (byteAt l j)) w := by
      rw [e2]
      simp only [Instr.index, asIntOf, Sem.run_bind, Sem.run_pure, Result.andThen, run_underlying ht.eq, h0, if_true, h1]
      rfl
    simp only [execOp, hs'.ev hx, hs'.ev hy, Sem.run_bind, h2, Result.andThen, Sem.run_pure]) k
end

/-! ### Results -/
inductive ResOK (P : Program) (w0 : World) (O : List Nat) (m : List As) (s : List (Nat × Value)) : ResultVar → Value → Prop
  | tmp {t : Nat} {v : Value} (h : look s t = some v) : ResOK P w0 O m s (.tmp t) v
  | cell {t : Nat} {ty e : TypeId} {zs vs : List Value} {b : Nat} {mk : Nat × Nat} [hS : Ag P ty zs] (hv : look s t = some (.pointer (some ⟨b, 0, none⟩))) [hm : Held b m (.cells vs.toArray e mk)] (hl : Nat.beq vs.length zs.length = true) : ResOK P w0 O m s (.cell t ty) (.agg vs.toArray)
  | one {t : Nat} {ty e : TypeId} {z v : Value} {b : Nat} {mk : Nat × Nat} [hS : Sc P ty z] (hv : look s t = some (.pointer (some ⟨b, 0, none⟩))) [hm : Held b m (.cells #[v] e mk)] : ResOK P w0 O m s (.cell t ty) v
inductive ResAll (P : Program) (w0 : World) (O : List Nat) (m : List As) (s : List (Nat × Value)) : List ResultVar → List Value → Prop
  | nil : ResAll P w0 O m s [] []
  | cons {r : ResultVar} {v : Value} {rs : List ResultVar} {vs : List Value} (h : ResOK P w0 O m s r v) (h' : ResAll P w0 O m s rs vs) : ResAll P w0 O m s (r :: rs) (v :: vs)
@[reducible] def retV : List Value → Value
  | [v] => v
  | vs => .tuple vs.toArray

section
variable {P : Program} {N : Nat} {w0 : World} {O : List Nat} {s : List (Nat × Value)} {m : List As}
def resOne (tmps : Array Value) : ResultVar → Sem Value
  | .tmp t => pure (tmps.getD t undef)
  | .cell a t => do loadVar t (← asAddr (tmps.getD a undef))
theorem ResOK.run {r : ResultVar} {v : Value} (h : ResOK P w0 O m s r v) {a : Act} {w : World} (hs : Has N s a) (hw : St w0 O m w) : (resOne a.tmps r).run P w = .ok v w := by
  cases h with
  | tmp h => simp [resOne, hs.at_ _ _ h]
  | @cell t ty e zs vs b mk hS hv hm hl =>
    have h1 : w.heap[b]? = some (.cells vs.toArray e mk) := hw.ok _ hm.mem
    have h2 := run_loadA (P := P) (w := w) (a := ⟨b, 0, none⟩) hS (Nat.eq_of_beq_eq_true hl) (fun j v hj => by
      rw [addr_add]
      simp only [World.cell?, h1]
      simpa using hj)
    simp only [Instr.loadAt, Instr.sureAddr, Sem.run_bind, Sem.run_pure, Result.andThen] at h2
    simp [resOne, hs.at_ _ _ hv, asAddr, h2]
  | @one t ty e z v b mk hS hv hm =>
    have h1 : w.heap[b]? = some (.cells #[v] e mk) := hw.ok _ hm.mem
    have h2 := run_load1 (P := P) (w := w) (a := ⟨b, 0, none⟩) (v := v) hS (by simp [World.cell?, h1])
    simp only [Instr.loadAt, Instr.sureAddr, Sem.run_bind, Sem.run_pure, Result.andThen] at h2
    simp [resOne, hs.at_ _ _ hv, asAddr, h2]
theorem ResAll.run {rs : List ResultVar} {vs : List Value} (h : ResAll P w0 O m s rs vs) {a : Act} {w : World} (hs : Has N s a) (hw : St w0 O m w) : (rs.mapM (m := Sem) (resOne a.tmps)).run P w = .ok vs w := by
  induction h with
  | nil => simp
  | cons h _ ih => simp [List.mapM_cons, h.run hs hw, ih]
theorem run_results {fn : Func} {rs : List ResultVar} {vs : List Value} (hr : fn.results = rs.toArray) (h : ResAll P w0 O m s rs vs) {a : Act} {w : World} (hs : Has N s a) (hw : St w0 O m w) : (results fn a.tmps).run P w = .ok (retV vs) w := by
  have h1 := h.run hs hw
  have h2 : ∀ f : ResultVar → Sem Value, (∀ x, f x = resOne a.tmps x) → (rs.toArray.mapM (m := Sem) f).run P w = .ok vs.toArray w := fun f hf => by
    obtain rfl : f = resOne a.tmps := funext hf
    rw [Array.mapM_eq_mapM_toList]; simp [h1]
  unfold results
  rw [hr]
  simp only [Sem.run_bind]
  rw [h2 _ (fun x => by cases x <;> rfl)]
  simp only [Result.andThen, Sem.run_pure]
  congr 1
  match vs with
  | [] => rfl
  | [v] => rfl
  | a :: b :: r => simp [retV]

/-- the end of a function -/
theorem ret_ {fn : Func} {R : Ending → World → Prop} {rs : List ResultVar} {vs : List Value} (hr : fn.results = rs.toArray) (hv : ResAll P w0 O m s rs vs) (h : ∀ w, St w0 O m w → R (.returned (retV vs)) w) : At N [] w0 O .ret s m (bodyPost P fn R) := fun a w hs hd hm =>
  ⟨hd, _, run_results hr hv hs hm, h w hm⟩
theorem ret_n {fn : Func} {R : Ending → World → Prop} {rs : List ResultVar} {vs : List Value} (hr : fn.results = rs.toArray) (hv : ResAll P w0 O m s rs vs) (h : ∀ w, St w0 O m w → R (.returned (retV vs)) w) : At N [] w0 O .normal s m (bodyPost P fn R) := fun a w hs hd hm =>
  ⟨hd, _, run_results hr hv hs hm, h w hm⟩
theorem retM_ {fn : Func} {R : Ending → World → Prop} {rs : List ResultVar} {vs : List Value} (hr : fn.results = rs.toArray) (hv : ResAll P w0 O m s rs vs) (h : ∀ w, St w0 O m w → R (.returned (retV vs)) w) : At N [] w0 O .ret s m (bodyPostM (FW none) 0 P fn R) := fun a w hs hd hm => by
  show LeavesInM (FW none) 0 P fn a.tmps R a.defers .returning w
  rw [hd]
  exact ⟨_, run_results hr hv hs hm, h w hm⟩
end
end Go.Proofs.Ytnncjfphdcfimaa
/- Contracts with a frame: into a function, a range over a function, a round of it, in whatever world the caller has. -/
set_option linter.unusedVariables false
set_option linter.unusedSimpArgs false
namespace Go.Proofs.Ytnncjfphdcfimaa
open Go.RowKit

theorem has_slots {args : List Value} {N n : Nat} (hN : args.length + (n - args.length) = N) : Has N (slots args 0) ⟨(args.toArray ++ Array.replicate (n - args.length) undef), []⟩ :=
  ⟨by simp [hN], fun t v hv => by
    obtain ⟨_, h2⟩ := slots_at _ _ _ _ hv
    have hlt : t < args.length := (List.getElem?_eq_some_iff.1 h2).1
    simp only [Nat.sub_zero] at h2
    have h3 : args[t] = v := by simpa [List.getElem?_eq_getElem hlt] using h2
    simp [Array.getD_eq_getD_getElem?, Array.getElem?_append_left, hlt, h3]⟩

/-- Into a function. -/
theorem enterF {P : Program} {f : FuncId} {fn : Func} {c : Code} {args : List Value} {w0 w : World} {R : Ending → World → Prop} {N : Nat} {s : List (Nat × Value)} {O : List Nat} {m : List As}
    (hf : P.funcs[f]? = some fn) (hb : fn.body = some c) (hN : args.length + (fn.ntmps - args.length) = N) (hs : slots args 0 = s) (hst : St w0 O m w)
    (h : GC none P N [] w0 O c s m (bodyPost P fn R)) : Calls P f args.toArray w R :=
  callsFW' (callsIn_of_wp hf hb trivial (h _ w (by
    subst hs
    refine ⟨by simp [hN], fun t v hv => ?_⟩
    obtain ⟨_, h2⟩ := slots_at _ _ _ _ hv
    have hlt : t < args.length := (List.getElem?_eq_some_iff.1 h2).1
    simp only [Nat.sub_zero] at h2
    have h3 : args[t] = v := by simpa [List.getElem?_eq_getElem hlt] using h2
    simp [Array.getD_eq_getD_getElem?, Array.getElem?_append_left, hlt, h3]) rfl hst))
/-- .. that holds a range over a function -/
theorem enterMF {P : Program} {f : FuncId} {fn : Func} {c : Code} {args : List Value} {w0 w : World} {R : Ending → World → Prop} {N : Nat} {s : List (Nat × Value)} {O : List Nat} {m : List As}
    (hf : P.funcs[f]? = some fn) (hb : fn.body = some c) (hN : args.length + (fn.ntmps - args.length) = N) (hs : slots args 0 = s) (hst : St w0 O m w)
    (h : GC none P N [] w0 O c s m (bodyPostM (FW none) 0 P fn R)) : Calls P f args.toArray w R :=
  callsFW' (callsIn_of_wp_marks hf hb trivial (h _ w (by
    subst hs
    refine ⟨by simp [hN], fun t v hv => ?_⟩
    obtain ⟨_, h2⟩ := slots_at _ _ _ _ hv
    have hlt : t < args.length := (List.getElem?_eq_some_iff.1 h2).1
    simp only [Nat.sub_zero] at h2
    have h3 : args[t] = v := by simpa [List.getElem?_eq_getElem hlt] using h2
    simp [Array.getD_eq_getD_getElem?, Array.getElem?_append_left, hlt, h3]) rfl hst))

section
variable {ro : Option Nat} {P : Program} {N : Nat} {D : List Deferred} {w0 : World} {O : List Nat} {ops : Array Oper} {l : List Oper} {s : List (Nat × Value)} {m : List As} {Q : Exit → Act → World → Prop}
variable {d : Nat} {ty : TypeId} {pos : String} {af : Array Edge}

/-- what a call of yield does: it hands back b and leaves m' -/
def YdB (P : Program) (yl : Nat) (vals : List Value) (w0 : World) (O : List Nat) (m : List As) (b : Bool) (m' : List As) : Prop :=
  ∀ w, St w0 O m w → Yd P yl vals.toArray w (fun e w' => e = .returned (.bool b) ∧ St w0 O m' w')

/-- a call of yield -/
theorem G_yieldF {x : Operand} {args : Array Operand} {at_ : Array TypeId} {vals : List Value} {yl : Nat} {b : Bool} {m' : List As}
    (hx : ev s x = some (yv yl)) (ha : evs s args.toList = some vals) (hN : Nat.blt d N = true) (hy : YdB P yl vals w0 O m b m')
    (k : G ro P N D w0 O ops l ((d, .bool b) :: s) m' Q) :
    G ro P N D w0 O ops (⟨some d, .call ⟨.value x, args, at_⟩, ty, pos, af, none⟩ :: l) s m Q := fun a w hs hdf hm => by
  have h1 : args.map a.eval = vals.toArray := by rw [← evs_map hs ha]; apply Array.ext'; simp
  simp only [wpL, Region.wanted, if_true]
  refine ⟨fun _ _ => trivial, ?_⟩
  rw [Oper.semAt_eq _ _ _ (by simp)]
  obtain ⟨fn, tmps, assign, body, hyr, hR⟩ := hy w hm
  have hrun : (execOp a.eval ⟨some d, .call ⟨.value x, args, at_⟩, ty, pos, af, none⟩).run P w = .ok (.round yl fn tmps assign body) w := by
    have e3 : #[] ++ vals.toArray = vals.toArray := by simp
    simp only [execOp, resolve, hs.ev hx, Deferred.ofValue, h1, Sem.run_bind, Sem.run_pure, Result.andThen, invoke, e3, hyr]
  rw [hrun, Oper.uponIn_round]
  refine ⟨fun h => by simp [FW] at h, ?_⟩
  refine RoundIn.mono (F := FW ro) ⟨trivial, hR.2⟩ ?_
  rintro e w' ⟨rfl, hst⟩
  exact k _ _ (hs.put d _ hN) (by simpa [Act.put] using hdf) hst

/-- a round of a range over a function, as its iterator sees it -/
theorem yd_F {P : Program} {N : Nat} {s s' : List (Nat × Value)} {ll : Nat} {fn : FuncId} {tmps : Array Value} {ps : List Tmp} {assign body : Code} {dd : Nat} {vals : List Value} {w : World} {R : Ending → World → Prop} {O : List Nat} {m mk : List As} {D : List Deferred}
    (hst : St w0 O m w) [hrec : BoxR ll m (recd .ready none fn tmps ps.toArray assign body dd) mk] (hs : Has N s ⟨tmps, D⟩) (hn : vals.length = ps.length) (hps : ps.all (fun t => Nat.blt t N) = true) (hs' : upds ps vals s = s')
    (k : GC (some ll) P N [] w0 O assign s' m (PA P ll body R)) : Yd P ll vals.toArray w R := by
  have hr : w.heap[ll]? = some (recd .ready none fn tmps ps.toArray assign body dd) := (hrec.ent.st hst).ok (.box _ _) (List.Mem.head _)
  refine ⟨_, _, _, _, run_yield hr (by simp [hn]), ?_⟩
  refine roundIn_of_wpIn (F := FW none) trivial ?_
  subst hs'
  have h1 := Has.upds ps vals (s := s) (tmps := tmps) ⟨hs.size, hs.at_⟩ hps
  refine k _ w ?_ rfl hst
  have e : (ps.toArray.zip vals.toArray).foldl (fun tmps (t, a) => tmps.setIfInBounds t a) tmps = (ps.zip vals).foldl (fun tm p => tm.setIfInBounds p.1 p.2) tmps := by
    rw [← Array.foldl_toList]
    simp
  exact ⟨by rw [← h1.size, e], fun t v hv => by rw [← h1.at_ t v hv]; exact congrArg (fun x => Array.getD x t undef) e⟩

/-- the loop's record is set busy, then the body -/
theorem At_beginF {ll : Nat} {body : Code} {R : Ending → World → Prop} {fn : FuncId} {tmps : Array Value} {ps : Array Tmp} {as' bo' : Code} {dd : Nat} {m' : List As} [hh : Held ll m (recd .ready none fn tmps ps as' bo' dd)] [hm : PutC ll (recd .busy none fn tmps ps as' bo' dd) m m']
    (k : GC (some ll) P N D w0 O body s m' (roundPost P ll R)) : At N D w0 O .normal s m (PA P ll body R) := fun a w hs hd hw => by
  have hr : w.heap[ll]? = some (recd .ready none fn tmps ps as' bo' dd) := hw.ok (.box _ _) hh.mem
  obtain ⟨o, m1, m2, rfl, rfl⟩ := hm.form
  have ho : w.heap[ll]? = some o := hw.ok (.box _ _) (by simp)
  rw [hr] at ho
  cases ho
  refine ⟨_, run_beginRound hr rfl, k a _ hs hd ?_⟩
  exact hw.set (grownBy_putObj' w ll _) (World.putObj_heap_same (o := recd .busy none fn tmps ps as' bo' dd) (Array.getElem?_eq_some_iff.1 hr).1)
/-- a round's end -/
theorem At_endF {ll : Nat} {R : Ending → World → Prop} {fn : FuncId} {tmps : Array Value} {ps : Array Tmp} {as' bo' : Code} {dd : Nat} {m' : List As} [hh : Held ll m (recd .busy none fn tmps ps as' bo' dd)] [hm : PutC ll (recd .ready none fn tmps ps as' bo' dd) m m']
    (k : ∀ w, St w0 O m' w → R (.returned (.bool true)) w) : At N D w0 O .normal s m (roundPost P ll R) := fun a w hs hd hw => by
  have hr : w.heap[ll]? = some (recd .busy none fn tmps ps as' bo' dd) := hw.ok (.box _ _) hh.mem
  obtain ⟨o, m1, m2, rfl, rfl⟩ := hm.form
  have ho : w.heap[ll]? = some o := hw.ok (.box _ _) (by simp)
  rw [hr] at ho
  cases ho
  refine ⟨_, _, run_endRound none hr, k _ ?_⟩
  exact hw.set (grownBy_putObj' w ll _) (World.putObj_heap_same (o := recd .ready none fn tmps ps as' bo' dd) (Array.getElem?_eq_some_iff.1 hr).1)
/-- .. left by a jump, by a return -/
theorem At_endF_exit {ll id : Nat} {R : Ending → World → Prop} {fn : FuncId} {tmps : Array Value} {ps : Array Tmp} {as' bo' : Code} {dd : Nat} {m' : List As} [hh : Held ll m (recd .busy none fn tmps ps as' bo' dd)] [hm : PutC ll (recd .done (some (.exit id)) fn tmps ps as' bo' dd) m m']
    (k : ∀ w, St w0 O m' w → R (.returned (.bool false)) w) : At N D w0 O (.exit id) s m (roundPost P ll R) := fun a w hs hd hw => by
  have hr : w.heap[ll]? = some (recd .busy none fn tmps ps as' bo' dd) := hw.ok (.box _ _) hh.mem
  obtain ⟨o, m1, m2, rfl, rfl⟩ := hm.form
  have ho : w.heap[ll]? = some o := hw.ok (.box _ _) (by simp)
  rw [hr] at ho
  cases ho
  refine ⟨_, _, run_endRound (some (.exit id)) hr, k _ ?_⟩
  exact hw.set (grownBy_putObj' w ll _) (World.putObj_heap_same (o := recd .done (some (.exit id)) fn tmps ps as' bo' dd) (Array.getElem?_eq_some_iff.1 hr).1)
theorem At_endF_ret {ll : Nat} {R : Ending → World → Prop} {fn : FuncId} {tmps : Array Value} {ps : Array Tmp} {as' bo' : Code} {dd : Nat} {m' : List As} [hh : Held ll m (recd .busy none fn tmps ps as' bo' dd)] [hm : PutC ll (recd .done (some .ret) fn tmps ps as' bo' dd) m m']
    (k : ∀ w, St w0 O m' w → R (.returned (.bool false)) w) : At N D w0 O .ret s m (roundPost P ll R) := fun a w hs hd hw => by
  have hr : w.heap[ll]? = some (recd .busy none fn tmps ps as' bo' dd) := hw.ok (.box _ _) hh.mem
  obtain ⟨o, m1, m2, rfl, rfl⟩ := hm.form
  have ho : w.heap[ll]? = some o := hw.ok (.box _ _) (by simp)
  rw [hr] at ho
  cases ho
  refine ⟨_, _, run_endRound (some .ret) hr, k _ ?_⟩
  exact hw.set (grownBy_putObj' w ll _) (World.putObj_heap_same (o := recd .done (some .ret) fn tmps ps as' bo' dd) (Array.getElem?_eq_some_iff.1 hr).1)

/-- A range over a function that runs to its end. -/
theorem GC_rangeF {g : Operand} {ps : Array Tmp} {assign body : Code} {gf : FuncId} {first cap : List Value} (M2 : List As)
    (hg : ev s g = some (.func (.func gf) first.toArray cap.toArray)) [he : En P gf]
    (hc : ∀ fn tmps dd ll w1 rc, rc = recd .ready none fn tmps ps assign body dd → Has N s ⟨tmps, D⟩ → St w0 O (.box ll rc :: .box dd (.deferred (some [])) :: m) w1 →
      Calls P gf (first ++ [yv ll] ++ cap).toArray w1 (fun e w2 => (∃ v, e = .returned v) ∧ St w0 O (.box ll rc :: .box dd (.deferred (some [])) :: M2) w2))
    (k : ∀ dd, At N (mkD dd :: D) w0 O .normal s (.box dd (.deferred (some [])) :: M2) Q) :
    GC none P N D w0 O (.rangeFunc g ps assign body) s m Q :=
  GC_range (ι := Unit) (Φ := fun _ => True) (M2 := fun _ => M2) (pend := fun _ => none) hg
    (fun fn tmps dd ll w1 hs hst => (hc fn tmps dd ll w1 _ rfl hs hst).mono (by
      rintro e w2 ⟨hv, hst2⟩
      exact ⟨(), .ready, trivial, by simp, hv, hst2⟩)) (fun dd _ _ _ => k dd) (fun dd _ c _ h => by cases h)

/-- A loop whose memory is told whole. -/
theorem GC_loopM {X : Type} {c : Code} {want : List As} (Φ : X → Prop) (ex : X → List (Nat × Value) → List (Nat × Value)) (M : X → List As) (μ : X → Nat) (x0 : X) (h0 : Φ x0) (hs : subs s (ex x0 []))
    (round : ∀ x, Φ x → GC ro P N D w0 O c (ex x s) (M x) (RoundS N D w0 O Φ ex s (fun x _ => M x) [] μ (μ x) Q)) [hm : SubM m want]
    (hm0 : M x0 = want := by exact rfl) (hex : ∀ x r, ex x r = ex x [] ++ r := by exact fun _ _ => rfl) : GC ro P N D w0 O (.loop c) s m Q :=
  GC_loopG Φ (fun x => ex x s) M μ x0 h0 (fun t v h => subs_app hs t v (by rw [← hex]; exact h)) (fun w hw => by rw [hm0]; exact hm.ent.st hw) round

/-- the marks of loops' blocks for deferred calls are taken at a function's end -/
theorem At_markF {e : Exit} {fn : Func} {R : Ending → World → Prop} {dd : Nat} {mk : List As} [hT : BoxR dd m (.deferred (some [])) mk] (he : e = .ret ∨ e = .normal) (h : At N D w0 O .ret s mk (bodyPostM (FW none) 0 P fn R)) :
    At N (mkD dd :: D) w0 O e s m (bodyPostM (FW none) 0 P fn R) := fun a w hs hd hm => by
  have h2 := At_mark (D := D) (N := N) (s := s) (dd := dd) (mk := mk) (m := .box dd (.deferred (some [])) :: mk) Take.here h a w hs hd (hT.ent.st hm)
  rcases he with rfl | rfl <;> exact h2
theorem ret_nM {fn : Func} {R : Ending → World → Prop} {rs : List ResultVar} {vs : List Value} (hr : fn.results = rs.toArray) (hv : ResAll P w0 O m s rs vs) (h : ∀ w, St w0 O m w → R (.returned (retV vs)) w) : At N [] w0 O .normal s m (bodyPostM (FW none) 0 P fn R) := fun a w hs hd hm => by
  show LeavesInM (FW none) 0 P fn a.tmps R a.defers .returning w
  rw [hd]
  exact ⟨_, run_results hr hv hs hm, h w hm⟩
end
end Go.Proofs.Ytnncjfphdcfimaa
/- Regions that draw their order, walked in every order. -/
set_option linter.unusedVariables false
set_option linter.unusedSimpArgs false
namespace Go.Proofs.Ytnncjfphdcfimaa
open Go.RowKit

/-- the drawing region id whose first operation stands at p is walked in every order -/
class DrawA (p : String) (id : Nat) : Prop where
  ok : True

def memB (i : Nat) : List Nat → Bool
  | [] => false
  | j :: r => Nat.beq i j || memB i r
theorem memB_iff {i : Nat} : ∀ {l : List Nat}, memB i l = true ↔ i ∈ l
  | [] => by simp [memB]
  | j :: r => by simp only [memB, Bool.or_eq_true, memB_iff (l := r), List.mem_cons, beq_iff]
/-- operation i is listed already, or may not come yet -/
def notYet (L : List Oper) (dn : List Nat) (i : Nat) : Bool := memB i dn || (predsAt L i).any fun p => !memB p dn
def allIn (dn : List Nat) : Nat → Bool
  | 0 => true
  | n + 1 => memB n dn && allIn dn n
theorem allIn_spec {dn : List Nat} : ∀ {n i : Nat}, allIn dn n = true → i < n → i ∈ dn
  | n + 1, i, h, hi => by
    simp only [allIn, Bool.and_eq_true, memB_iff] at h
    by_cases e : i = n
    · subst e; exact h.1
    · exact allIn_spec h.2 (by omega)
def RelA (L : List Oper) (dn : List Nat) (l : Array Bool) : Prop := l.size = L.length ∧ ∀ i, Lst l i ↔ i ∈ dn

/-- Q behind the last operation alone -/
def QN (Q : Exit → Act → World → Prop) : Exit → Act → World → Prop := fun e a w => e = .normal ∧ Q e a w
theorem wpAnyIn_monoQ {F : Fence} {n : Nat} {P : Program} {md : Region.Mode} {ops : Array Oper} {Q Q' : Exit → Act → World → Prop} (hQ : ∀ e a w, Q e a w → Q' e a w) : ∀ (fuel : Nat) (l : Array Bool) (a : Act) (w : World), wpAnyIn F n P md ops Q fuel l a w → wpAnyIn F n P md ops Q' fuel l a w
  | 0, l, a, w, h => ⟨h.1, hQ _ _ _ h.2⟩
  | fuel + 1, l, a, w, h => ⟨fun h0 => hQ _ _ _ (h.1 h0), fun i hi => by
    have h1 := h.2 i hi
    unfold wpOpIn at h1 ⊢
    cases ho : ops[i]? with
    | none => rw [ho] at h1; exact wpAnyIn_monoQ hQ fuel _ _ _ h1
    | some o =>
      rw [ho] at h1
      simp only at h1 ⊢
      split
      · rename_i hw
        rw [if_pos hw] at h1
        exact wpIn_both (wpAnyIn_monoQ hQ fuel _) hQ h1
      · rename_i hw
        rw [if_neg hw] at h1
        exact ⟨h1.1, wpAnyIn_monoQ hQ fuel _ _ _ h1.2⟩⟩

/-- the operations of dn are listed: all orders of the others -/
def GA (ro : Option Nat) (P : Program) (N : Nat) (D : List Deferred) (w0 : World) (O : List Nat) (ops : Array Oper) (L : List Oper) (fuel : Nat) (dn : List Nat) (s : List (Nat × Value)) (m : List As) (Q : Exit → Act → World → Prop) : Prop :=
  ∀ l, RelA L dn l → ∀ a w, Has N s a → a.defers = D → St w0 O m w → wpAnyIn (FW ro) 0 P .any ops (QN Q) fuel l a w
/-- what is asked behind one of them -/
def NxA (ro : Option Nat) (P : Program) (D : List Deferred) (ops : Array Oper) (L : List Oper) (fuel : Nat) (dn : List Nat) (Q : Exit → Act → World → Prop) : Exit → Act → World → Prop :=
  fun e a w => e = .normal ∧ a.defers = D ∧ ∀ l, RelA L dn l → wpAnyIn (FW ro) 0 P .any ops (QN Q) fuel l a w
/-- the operations from k on -/
def GAR (ro : Option Nat) (P : Program) (N : Nat) (D : List Deferred) (w0 : World) (O : List Nat) (ops : Array Oper) (L : List Oper) (fuel : Nat) (dn : List Nat) (s : List (Nat × Value)) (m : List As) (Q : Exit → Act → World → Prop) (k : Nat) : Prop :=
  ∀ i, k ≤ i → i < L.length → notYet L dn i = true ∨ ∃ o, L[i]? = some o ∧ plainOp o.op = true ∧ G ro P N D w0 O ops [o] s m (NxA ro P D ops L fuel (i :: dn) Q)
section
variable {ro : Option Nat} {P : Program} {N : Nat} {D : List Deferred} {w0 : World} {O : List Nat} {ops : Array Oper} {L : List Oper} {fuel : Nat} {dn : List Nat} {s : List (Nat × Value)} {m : List As} {Q : Exit → Act → World → Prop} {k : Nat}
theorem At_nx (h : GA ro P N D w0 O ops L fuel dn s m Q) : At N D w0 O .normal s m (NxA ro P D ops L fuel dn Q) := fun a w hs hd hm => ⟨rfl, hd, fun l hl => h l hl a w hs hd hm⟩
theorem G_nilN {ops' : Array Oper} (h : At N D w0 O .normal s m (NxA ro P D ops L fuel dn Q)) : G ro P N D w0 O ops' [] s m (NxA ro P D ops L fuel dn Q) := G_nil h
theorem Is_GA (h : GA ro P N D w0 O ops L fuel dn s m Q) : GA ro P N D w0 O ops L fuel dn s m Q := h
theorem Is_GAR (h : GAR ro P N D w0 O ops L fuel dn s m Q k) : GAR ro P N D w0 O ops L fuel dn s m Q k := h
theorem GAR_end (h : Nat.ble L.length k = true) : GAR ro P N D w0 O ops L fuel dn s m Q k := fun i h1 h2 => by
  have := Nat.le_of_ble_eq_true h; omega
theorem GAR_skip (h : notYet L dn k = true) (hr : GAR ro P N D w0 O ops L fuel dn s m Q (k + 1)) : GAR ro P N D w0 O ops L fuel dn s m Q k := fun i h1 h2 => by
  by_cases e : i = k
  · subst e; exact .inl h
  · exact hr i (by omega) h2
theorem GAR_do {o : Oper} (ho : L[k]? = some o) (hp : plainOp o.op = true) (h : G ro P N D w0 O ops [o] s m (NxA ro P D ops L fuel (k :: dn) Q)) (hr : GAR ro P N D w0 O ops L fuel dn s m Q (k + 1)) :
    GAR ro P N D w0 O ops L fuel dn s m Q k := fun i h1 h2 => by
  by_cases e : i = k
  · subst e; exact .inr ⟨o, ho, hp, h⟩
  · exact hr i (by omega) h2
theorem GA_done [hl : RegionR ops L] (hr : allIn dn L.length = true) (h : At N D w0 O .normal s m Q) : GA ro P N D w0 O ops L fuel dn s m Q := fun l hL a w hs hd hm => by
  have hr' : Region.ready .any ops l = [] := by
    rw [hl.eq]
    refine List.eq_nil_iff_forall_not_mem.2 fun i hi => ?_
    have h3 := (ready_iff hL.1).1 hi
    exact h3.2.1 ((hL.2 i).2 (allIn_spec hr h3.1))
  cases fuel with
  | zero => exact ⟨hr', rfl, h a w hs hd hm⟩
  | succ n => exact ⟨fun _ => ⟨rfl, h a w hs hd hm⟩, fun i hi => by rw [hr'] at hi; cases hi⟩
def someYet (L : List Oper) (dn : List Nat) : Nat → Bool
  | 0 => false
  | n + 1 => !notYet L dn n || someYet L dn n
theorem someYet_spec {L : List Oper} {dn : List Nat} : ∀ {n : Nat}, someYet L dn n = true → ∃ i, i < n ∧ notYet L dn i = false
  | n + 1, h => by
    simp only [someYet, Bool.or_eq_true, Bool.not_eq_true'] at h
    rcases h with h | h
    · exact ⟨n, by omega, h⟩
    · obtain ⟨i, h1, h2⟩ := someYet_spec h
      exact ⟨i, by omega, h2⟩
theorem notYet_false {L : List Oper} {dn : List Nat} {i : Nat} {l : Array Bool} (hL : RelA L dn l) : notYet L dn i = false ↔ ¬ Lst l i ∧ ∀ p ∈ predsAt L i, Lst l p := by
  rw [hL.2 i]
  simp only [notYet, Bool.or_eq_false_iff, List.any_eq_false, Bool.not_eq_true, Bool.not_eq_false']
  rw [← Bool.not_eq_true, memB_iff]
  constructor
  · rintro ⟨h1, h2⟩
    exact ⟨h1, fun p hp => (hL.2 p).2 (memB_iff.1 (h2 p hp))⟩
  · rintro ⟨h1, h2⟩
    exact ⟨h1, fun p hp => memB_iff.2 ((hL.2 p).1 (h2 p hp))⟩
theorem RelA.set {L : List Oper} {dn : List Nat} {l : Array Bool} (h : RelA L dn l) {i : Nat} (hi : i < L.length) : RelA L (i :: dn) (l.setIfInBounds i true) := ⟨by simp [h.1], fun j => by
  rw [lst_set (by rw [h.1]; exact hi), h.2 j, List.mem_cons]⟩
theorem GA_ready [hl : RegionR ops L] (hne : someYet L dn L.length = true) (h : GAR ro P N D w0 O ops L fuel dn s m Q 0) : GA ro P N D w0 O ops L (fuel + 1) dn s m Q := fun l hL a w hs hd hm => by
  refine wpAnyIn_ready (rs := Region.ready .any ops l) rfl ?_ (fun i hi => ?_)
  · obtain ⟨i, h1, h2⟩ := someYet_spec hne
    intro h0
    have := (ready_iff (i := i) hL.1).2 ⟨h1, (notYet_false hL).1 h2⟩
    rw [hl.eq] at h0
    rw [h0] at this
    cases this
  · rw [hl.eq] at hi
    have h3 := (ready_iff hL.1).1 hi
    rcases h i (Nat.zero_le _) h3.1 with h4 | ⟨o, ho, hp, hg⟩
    · have := (notYet_false hL).2 h3.2
      rw [h4] at this; cases this
    · exact step_congr (a' := a) (Q1 := NxA ro P D ops L fuel (i :: dn) Q) (by rw [hl.eq]; simpa using ho) hp rfl (fun _ _ => rfl) (fun e b u hq => ⟨hq.1, hq.2.1.trans hd.symm⟩) (hg a w hs hd hm) (fun v w' hq => hq.2.2 _ (hL.set h3.1))
class LenN {α : Type} (l : List α) (n : outParam Nat) : Prop where
  eq : l.length = n
instance lenN_nil {α : Type} : LenN ([] : List α) 0 := ⟨rfl⟩
instance lenN_cons {α : Type} {a : α} {l : List α} {n : Nat} [h : LenN l n] : LenN (a :: l) (n + 1) := ⟨by rw [List.length_cons, h.eq]⟩
theorem GC_drawA {id n : Nat} {d : Option Nat} {o : Op} {ty : TypeId} {p : String} {af : Array Edge} {g : Option (Nat × Bool)} {r : List Oper} [hx : MixedR P] [hi : DrawA p id] [hn : LenN r n]
    (h0 : ∀ (ops : Array Oper) [RegionR ops (⟨d, o, ty, p, af, g⟩ :: r)], GA ro P N D w0 O ops (⟨d, o, ty, p, af, g⟩ :: r) (n + 1) [] s m Q) :
    GC ro P N D w0 O (.region id (⟨d, o, ty, p, af, g⟩ :: r).toArray true) s m Q := fun a w hs hd hm => by
  refine wpIn_region_any hx.ok ?_
  have hn := hn.eq
  subst hn
  have e : (⟨d, o, ty, p, af, g⟩ :: r : List Oper).toArray.size = r.length + 1 := by simp
  have h1 := @h0 (⟨d, o, ty, p, af, g⟩ :: r).toArray ⟨rfl⟩ (Array.replicate (r.length + 1) false) ⟨by simp, fun i => by
    unfold Lst
    by_cases h : i < r.length + 1
    · simp [Array.getD, h]
    · simp [Array.getD, h]⟩ a _ hs hd hm.drew
  rw [e]; exact wpAnyIn_monoQ (fun e a w h => h.2) _ _ _ _ h1
/-- nothing that is left looks at what operation i fills, or fills what it looks at, but what waits for it -/
def freeL (L : List Oper) (dn : List Nat) (i : Nat) : Nat → Bool
  | 0 => true
  | j + 1 => (Nat.beq j i || memB j dn || memB i (predsAt L j) || (match L[i]?, L[j]? with | some oi, some oj => oi.apart L.toArray oj | _, _ => true)) && freeL L dn i j
theorem freeL_spec {L : List Oper} {dn : List Nat} {i : Nat} : ∀ {n j : Nat}, freeL L dn i n = true → j < n → j ≠ i → j ∉ dn → i ∉ predsAt L j → ∀ oi oj, L[i]? = some oi → L[j]? = some oj → oi.apart L.toArray oj = true
  | n + 1, j, h, hj, h1, h2, h3, oi, oj, hi, hjo => by
    simp only [freeL, Bool.and_eq_true, Bool.or_eq_true, memB_iff, beq_iff] at h
    by_cases e : j = n
    · subst e
      rcases h.1 with ((h4 | h4) | h4) | h4
      · exact absurd h4 h1
      · exact absurd h4 h2
      · exact absurd h4 h3
      · rw [hi, hjo] at h4; exact h4
    · exact freeL_spec h.2 (by omega) h1 h2 h3 oi oj hi hjo
def noSel (L : List Oper) : Bool := L.all fun o => match o.op with | .select .. => false | _ => true
/-- an operation that may come now, whose value hangs on no memory, is taken first -/
theorem GA_pure {op : Op} {v : Value} {d : Nat} {ty : TypeId} {p : String} {af : Array Edge} [hl : RegionR ops L] (i : Nat) (ho : L[i]? = some ⟨some d, op, ty, p, af, none⟩) (hy : ∀ a w1 w, Has N s a → St w0 O m w1 → (execOp a.eval ⟨some d, op, ty, p, af, none⟩).run P w = .ok (.value v) w) (hab : ∀ w (ρ : Operand → Value), Oper.about P w ρ ⟨some d, op, ty, p, af, none⟩ = none) (hN : Nat.blt d N = true)
    (hny : notYet L dn i = false) (hf : freeL L dn i L.length = true) (hsel : noSel L = true) (h : GA none P N D w0 O ops L fuel (i :: dn) ((d, v) :: s) m Q) : GA none P N D w0 O ops L (fuel + 1) dn s m Q := fun l hL a w hs hd hm => by
  have hi : i < L.length := (List.getElem?_eq_some_iff.1 ho).1
  have hoi : ops[i]? = some ⟨some d, op, ty, p, af, none⟩ := by rw [hl.eq]; simpa using ho
  refine wpAnyIn_first (oi := ⟨some d, op, ty, p, af, none⟩) (v := v) rfl hoi (fun j o cs b hj hs' => ?_) (fun c a w hc => by cases hc.1) fuel l a w (fun j oj hj hji hun hno => ?_) ?_ ?_ ?_
  · rw [hl.eq] at hj
    have hj' : L[j]? = some o := by simpa using hj
    have h1 := List.all_eq_true.1 hsel o (List.mem_of_getElem? hj')
    rw [hs'] at h1; cases h1
  · rw [hl.eq] at hj ⊢
    have hj' : L[j]? = some oj := by simpa using hj
    have hjl : j < L.length := (List.getElem?_eq_some_iff.1 hj').1
    refine freeL_spec hf hjl hji (fun hjd => ?_) (fun hp => ?_) _ _ ho hj'
    · have := (hL.2 j).2 hjd
      unfold Lst at this
      rw [Array.getD_eq_getD_getElem?] at this hun
      have hjs : j < l.size := by rw [hL.1]; exact hjl
      simp [hjs] at this hun
      rw [this] at hun; cases hun
    · rw [predsAt, hj'] at hp
      simp only [predsOf, List.mem_map, List.mem_filter] at hp
      obtain ⟨e, ⟨he, hb⟩, hei⟩ := hp
      exact hno e (by simpa using he) hb hei
  · rw [hl.eq]; exact (ready_iff hL.1).2 ⟨hi, (notYet_false hL).1 hny⟩
  · exact ⟨.inl ⟨by simp [Region.wanted], fun w' => hy a w w' hs hm⟩, fun w => hab w _⟩
  · have h1 := h (l.setIfInBounds i true) (hL.set hi) (a.put (some d) v) w (hs.put d v hN) (by simpa [Act.put] using hd) hm
    exact h1
theorem GA_mv {x : Operand} {v : Value} {d : Nat} {ty : TypeId} {p : String} {af : Array Edge} [hl : RegionR ops L] (i : Nat) (ho : L[i]? = some ⟨some d, .move x, ty, p, af, none⟩) (hx : ev s x = some v) (hN : Nat.blt d N = true)
    (hny : notYet L dn i = false) (hf : freeL L dn i L.length = true) (hsel : noSel L = true) (h : GA none P N D w0 O ops L fuel (i :: dn) ((d, v) :: s) m Q) : GA none P N D w0 O ops L (fuel + 1) dn s m Q :=
  GA_pure i ho (fun a _ w hs _ => by simp [execOp, hs.ev hx]) (fun w ρ => by simp [Oper.about]) hN hny hf hsel h
theorem GA_fa {x : Operand} {b o off fi : Nat} {d : Nat} {t ty : TypeId} {p : String} {af : Array Edge} [hl : RegionR ops L] (i : Nat) (ho : L[i]? = some ⟨some d, .fieldAddr t x fi, ty, p, af, none⟩) [hF : FieldOff P t fi off] (hx : ev s x = some (.pointer (some ⟨b, o, none⟩))) (hN : Nat.blt d N = true)
    (hny : notYet L dn i = false) (hf : freeL L dn i L.length = true) (hsel : noSel L = true) (h : GA none P N D w0 O ops L fuel (i :: dn) ((d, .pointer (some ⟨b, o + off, none⟩)) :: s) m Q) : GA none P N D w0 O ops L (fuel + 1) dn s m Q :=
  GA_pure i ho (fun a _ w hs _ => by
    have h1 := run_fieldAt (P := P) (w := w) (t := t) (i := fi) (off := off) ⟨b, o, none⟩
    rw [addr_add] at h1
    simp [execOp, hs.ev hx, h1]) (fun w ρ => by simp [Oper.about]) hN hny hf hsel h
section
variable {α : Type} [Elt α] {t e : TypeId} {x y z : Operand} {v : Value} {xs : List α} {i1 i2 : Int} {lo hi : Nat} {sd sd' : Prop} {d : Nat} {ty : TypeId} {p : String} {af : Array Edge}
theorem GA_cutLo [hl : RegionR ops L] (i : Nat) (ho : L[i]? = some ⟨some d, .slice t x (some y) none none, ty, p, af, none⟩) [ht : Und P t (.slice e)] [hL : Lay P e α] (hx : ev s x = some v) (hy : ev s y = some (I i1)) (hN : Nat.blt d N = true) [h : RdR w0 O m v xs] [hn : NatR i1 lo sd]
    (hny : notYet L dn i = false) (hf : freeL L dn i L.length = true) (hsel : noSel L = true) (k : [Fct (lo ≤ xs.length ∧ xs.length ≤ xs.length)] → GA none P N D w0 O ops L fuel (i :: dn) ((d, cut α v lo xs.length) :: s) m Q) (hs : sd ∧ lo ≤ xs.length := by first | exact trivial | omega | (simp only [true_and, and_true, and_self]; omega) | exact ⟨trivial, rfl⟩ | exact ⟨rfl, rfl, by decide⟩ | rfl | (simp only [true_and, and_true, and_self]; done) | decide | assumption | exact ⟨by assumption, by omega⟩ | exact ⟨by assumption, by assumption⟩ | exact ⟨by assumption, by assumption, by omega⟩) : GA none P N D w0 O ops L (fuel + 1) dn s m Q :=
  GA_pure i ho (fun a w1 w hs' hm => run_cutR hx (.inl ⟨y, i1, sd, rfl, hy, hn, hs.1⟩) (.inr ⟨rfl, rfl⟩) ⟨hs.2, Nat.le_refl _⟩ hs' (h.rd w1 hm) w) (fun w ρ => by simp [Oper.about]) hN hny hf hsel (@k ⟨hs.2, Nat.le_refl _⟩)
theorem GA_cutHi [hl : RegionR ops L] (i : Nat) (ho : L[i]? = some ⟨some d, .slice t x none (some y) none, ty, p, af, none⟩) [ht : Und P t (.slice e)] [hL : Lay P e α] (hx : ev s x = some v) (hy : ev s y = some (I i1)) (hN : Nat.blt d N = true) [h : RdR w0 O m v xs] [hn : NatR i1 hi sd]
    (hny : notYet L dn i = false) (hf : freeL L dn i L.length = true) (hsel : noSel L = true) (k : [Fct (0 ≤ hi ∧ hi ≤ xs.length)] → GA none P N D w0 O ops L fuel (i :: dn) ((d, cut α v 0 hi) :: s) m Q) (hs : sd ∧ hi ≤ xs.length := by first | exact trivial | omega | (simp only [true_and, and_true, and_self]; omega) | exact ⟨trivial, rfl⟩ | exact ⟨rfl, rfl, by decide⟩ | rfl | (simp only [true_and, and_true, and_self]; done) | decide | assumption | exact ⟨by assumption, by omega⟩ | exact ⟨by assumption, by assumption⟩ | exact ⟨by assumption, by assumption, by omega⟩) : GA none P N D w0 O ops L (fuel + 1) dn s m Q :=
  GA_pure i ho (fun a w1 w hs' hm => run_cutR hx (.inr ⟨rfl, rfl⟩) (.inl ⟨y, i1, sd, rfl, hy, hn, hs.1⟩) ⟨Nat.zero_le _, hs.2⟩ hs' (h.rd w1 hm) w) (fun w ρ => by simp [Oper.about]) hN hny hf hsel (@k ⟨Nat.zero_le _, hs.2⟩)
theorem GA_cutBoth [hl : RegionR ops L] (i : Nat) (ho : L[i]? = some ⟨some d, .slice t x (some y) (some z) none, ty, p, af, none⟩) [ht : Und P t (.slice e)] [hL : Lay P e α] (hx : ev s x = some v) (hy : ev s y = some (I i1)) (hz : ev s z = some (I i2)) (hN : Nat.blt d N = true) [h : RdR w0 O m v xs] [hn : NatR i1 lo sd] [hn' : NatR i2 hi sd']
    (hny : notYet L dn i = false) (hf : freeL L dn i L.length = true) (hsel : noSel L = true) (k : [Fct (lo ≤ hi ∧ hi ≤ xs.length)] → GA none P N D w0 O ops L fuel (i :: dn) ((d, cut α v lo hi) :: s) m Q) (hs : (sd ∧ sd') ∧ lo ≤ hi ∧ hi ≤ xs.length := by first | exact trivial | omega | (simp only [true_and, and_true, and_self]; omega) | exact ⟨trivial, rfl⟩ | exact ⟨rfl, rfl, by decide⟩ | rfl | (simp only [true_and, and_true, and_self]; done) | decide | assumption | exact ⟨by assumption, by omega⟩ | exact ⟨by assumption, by assumption⟩ | exact ⟨by assumption, by assumption, by omega⟩) : GA none P N D w0 O ops L (fuel + 1) dn s m Q :=
  GA_pure i ho (fun a w1 w hs' hm => run_cutR hx (.inl ⟨y, i1, sd, rfl, hy, hn, hs.1.1⟩) (.inl ⟨z, i2, sd', rfl, hz, hn', hs.1.2⟩) hs.2 hs' (h.rd w1 hm) w) (fun w ρ => by simp [Oper.about]) hN hny hf hsel (@k ⟨hs.2⟩)
end
def pureB (o : Oper) : Bool := o.guard.isNone && match o.op with
  | .move _ => true
  | .fieldAddr _ _ _ => true
  | .slice _ _ _ _ _ => true
  | _ => false
/-- the first operation that may come now and looks at no memory -/
def firstPure (L : List Oper) (dn : List Nat) : Nat → Option Nat
  | 0 => none
  | n + 1 => match firstPure L dn n with
    | some i => some i
    | none => bif notYet L dn n then none else match L[n]? with
      | some o => bif pureB o then some n else none
      | none => none
/-- operation i is to be taken -/
def GAX (i : Nat) (X : Prop) : Prop := X
theorem GA_pick {i : Nat} (hi : firstPure L dn L.length = some i) (h : GAX i (GA ro P N D w0 O ops L fuel dn s m Q)) : GA ro P N D w0 O ops L fuel dn s m Q := h
theorem GX_mv {i : Nat} {x : Operand} {v : Value} {d : Nat} {ty : TypeId} {p : String} {af : Array Edge} [hl : RegionR ops L] (ho : L[i]? = some ⟨some d, .move x, ty, p, af, none⟩) (hx : ev s x = some v) (hN : Nat.blt d N = true)
    (hny : notYet L dn i = false) (hf : freeL L dn i L.length = true) (hsel : noSel L = true) (h : GA none P N D w0 O ops L fuel (i :: dn) ((d, v) :: s) m Q) : GAX i (GA none P N D w0 O ops L (fuel + 1) dn s m Q) := GA_mv i ho hx hN hny hf hsel h
theorem GX_fa {i : Nat} {x : Operand} {b o off fi : Nat} {d : Nat} {t ty : TypeId} {p : String} {af : Array Edge} [hl : RegionR ops L] (ho : L[i]? = some ⟨some d, .fieldAddr t x fi, ty, p, af, none⟩) [hF : FieldOff P t fi off] (hx : ev s x = some (.pointer (some ⟨b, o, none⟩))) (hN : Nat.blt d N = true)
    (hny : notYet L dn i = false) (hf : freeL L dn i L.length = true) (hsel : noSel L = true) (h : GA none P N D w0 O ops L fuel (i :: dn) ((d, .pointer (some ⟨b, o + off, none⟩)) :: s) m Q) : GAX i (GA none P N D w0 O ops L (fuel + 1) dn s m Q) := GA_fa i ho hx hN hny hf hsel h
section
variable {α : Type} [Elt α] {i : Nat} {t e : TypeId} {x y z : Operand} {v : Value} {xs : List α} {i1 i2 : Int} {lo hi : Nat} {sd sd' : Prop} {d : Nat} {ty : TypeId} {p : String} {af : Array Edge}
theorem GX_cutLo [hl : RegionR ops L] (ho : L[i]? = some ⟨some d, .slice t x (some y) none none, ty, p, af, none⟩) [ht : Und P t (.slice e)] [hL : Lay P e α] (hx : ev s x = some v) (hy : ev s y = some (I i1)) (hN : Nat.blt d N = true) [h : RdR w0 O m v xs] [hn : NatR i1 lo sd]
    (hny : notYet L dn i = false) (hf : freeL L dn i L.length = true) (hsel : noSel L = true) (k : [Fct (lo ≤ xs.length ∧ xs.length ≤ xs.length)] → GA none P N D w0 O ops L fuel (i :: dn) ((d, cut α v lo xs.length) :: s) m Q) (hs : sd ∧ lo ≤ xs.length := by first | exact trivial | omega | (simp only [true_and, and_true, and_self]; omega) | exact ⟨trivial, rfl⟩ | exact ⟨rfl, rfl, by decide⟩ | rfl | (simp only [true_and, and_true, and_self]; done) | decide | assumption | exact ⟨by assumption, by omega⟩ | exact ⟨by assumption, by assumption⟩ | exact ⟨by assumption, by assumption, by omega⟩) : GAX i (GA none P N D w0 O ops L (fuel + 1) dn s m Q) := GA_cutLo i ho hx hy hN hny hf hsel k hs
theorem GX_cutHi [hl : RegionR ops L] (ho : L[i]? = some ⟨some d, .slice t x none (some y) none, ty, p, af, none⟩) [ht : Und P t (.slice e)] [hL : Lay P e α] (hx : ev s x = some v) (hy : ev s y = some (I i1)) (hN : Nat.blt d N = true) [h : RdR w0 O m v xs] [hn : NatR i1 hi sd]
    (hny : notYet L dn i = false) (hf : freeL L dn i L.length = true) (hsel : noSel L = true) (k : [Fct (0 ≤ hi ∧ hi ≤ xs.length)] → GA none P N D w0 O ops L fuel (i :: dn) ((d, cut α v 0 hi) :: s) m Q) (hs : sd ∧ hi ≤ xs.length := by first | exact trivial | omega | (simp only [true_and, and_true, and_self]; omega) | exact ⟨trivial, rfl⟩ | exact ⟨rfl, rfl, by decide⟩ | rfl | (simp only [true_and, and_true, and_self]; done) | decide | assumption | exact ⟨by assumption, by omega⟩ | exact ⟨by assumption, by assumption⟩ | exact ⟨by assumption, by assumption, by omega⟩) : GAX i (GA none P N D w0 O ops L (fuel + 1) dn s m Q) := GA_cutHi i ho hx hy hN hny hf hsel k hs
theorem GX_cutBoth [hl : RegionR ops L] (ho : L[i]? = some ⟨some d, .slice t x (some y) (some z) none, ty, p, af, none⟩) [ht : Und P t (.slice e)] [hL : Lay P e α] (hx : ev s x = some v) (hy : ev s y = some (I i1)) (hz : ev s z = some (I i2)) (hN : Nat.blt d N = true) [h : RdR w0 O m v xs] [hn : NatR i1 lo sd] [hn' : NatR i2 hi sd']
    (hny : notYet L dn i = false) (hf : freeL L dn i L.length = true) (hsel : noSel L = true) (k : [Fct (lo ≤ hi ∧ hi ≤ xs.length)] → GA none P N D w0 O ops L fuel (i :: dn) ((d, cut α v lo hi) :: s) m Q) (hs : (sd ∧ sd') ∧ lo ≤ hi ∧ hi ≤ xs.length := by first | exact trivial | omega | (simp only [true_and, and_true, and_self]; omega) | exact ⟨trivial, rfl⟩ | exact ⟨rfl, rfl, by decide⟩ | rfl | (simp only [true_and, and_true, and_self]; done) | decide | assumption | exact ⟨by assumption, by omega⟩ | exact ⟨by assumption, by assumption⟩ | exact ⟨by assumption, by assumption, by omega⟩) : GAX i (GA none P N D w0 O ops L (fuel + 1) dn s m Q) := GA_cutBoth i ho hx hy hz hN hny hf hsel k hs
end
end
end Go.Proofs.Ytnncjfphdcfimaa
/- Data in data: slices with what they read as, facts that stay, and a base that moves on: what is held is let go for good ('frozen') and is read as what lay there before. -/
set_option linter.unusedVariables false
set_option linter.unusedSimpArgs false
namespace Go.Proofs.Ytnncjfphdcfimaa
open Go.RowKit

/-- a value of one cell -/
class One (v : Value) : Prop where
  h : v.oneCell' = true
instance one_slice (A : Option Addr) (n c : Nat) : One (.slice A n c) := ⟨rfl⟩
/-- A slice with what it reads as. -/
structure Sl (α : Type) where
  v : Value
  l : List α
  one : v.oneCell' = true
def slOf {α : Type} (v : Value) [h : One v] (l : List α) : Sl α := ⟨v, l, h.h⟩
def slNil {α : Type} : Sl α := ⟨.slice none 0 0, [], rfl⟩
instance one_sl {α : Type} (x : Sl α) : One x.v := ⟨x.one⟩
instance eltSl {α : Type} : Elt (Sl α) where
  sz := 1
  enc x := [x.v]
  val x := x.v
  cells x := cells_one x.one
  len _ := rfl
  one x c h := by simp at h; subst h; exact x.one
  pos := by decide
instance {α : Type} : Scal (Sl α) := ⟨fun _ => rfl, rfl⟩
instance valR_sl {α : Type} (x : Sl α) : ValR x x.v := ⟨rfl⟩
/-- a text -/
instance eltS : Elt ByteArray where
  sz := 1
  enc n := [.string n]
  val n := .string n
  cells _ := rfl
  len _ := rfl
  one _ c h := by simp at h; subst h; rfl
  pos := by decide
instance : Scal ByteArray := ⟨fun _ => rfl, rfl⟩
instance valR_str (a : ByteArray) : ValR a (.string a) := ⟨rfl⟩

/-- What a Lean value says of memory; it stays true. -/
class Dp (α : Type) where
  tru : World → List Nat → α → Prop
  lift : ∀ {w0 : World} {O O' : List Nat} {m : List As} {w : World} {x : α}, St w0 O m w → (∀ b ∈ O', w0.heap.size ≤ b ∨ b ∈ O) → tru w0 O x → tru w O' x
class Tru (w0 : World) (O : List Nat) {α : Type} [Dp α] (x : α) : Prop where
  h : Dp.tru w0 O x
class TruL (w0 : World) (O : List Nat) {α : Type} [Dp α] (l : List α) : Prop where
  h : ∀ x ∈ l, Dp.tru w0 O x
/-- a type whose values say nothing of memory -/
class Flat (α : Type) [Dp α] : Prop where
  h : ∀ w O (x : α), Dp.tru w O x
instance dpInt : Dp Int := ⟨fun _ _ _ => True, fun _ _ _ => trivial⟩
instance dpNat : Dp Nat := ⟨fun _ _ _ => True, fun _ _ _ => trivial⟩
instance dpBv (n : Nat) : Dp (BitVec n) := ⟨fun _ _ _ => True, fun _ _ _ => trivial⟩
instance dpBool : Dp Bool := ⟨fun _ _ _ => True, fun _ _ _ => trivial⟩
instance dpStr : Dp ByteArray := ⟨fun _ _ _ => True, fun _ _ _ => trivial⟩
instance : Flat Int := ⟨fun _ _ _ => trivial⟩
instance : Flat Nat := ⟨fun _ _ _ => trivial⟩
instance (n : Nat) : Flat (BitVec n) := ⟨fun _ _ _ => trivial⟩
instance : Flat Bool := ⟨fun _ _ _ => trivial⟩
instance : Flat ByteArray := ⟨fun _ _ _ => trivial⟩
instance dpSl {α : Type} [Elt α] [Dp α] : Dp (Sl α) := ⟨fun w O x => RdO w O x.v (Elt.sz α) (encs x.l) ∧ ∀ y ∈ x.l, Dp.tru w O y, fun hst hO h => ⟨h.1.new hst hO, fun y hy => Dp.lift hst hO (h.2 y hy)⟩⟩
instance dpProd {α β : Type} [Dp α] [Dp β] : Dp (α × β) := ⟨fun w O x => Dp.tru w O x.1 ∧ Dp.tru w O x.2, fun hst hO h => ⟨Dp.lift hst hO h.1, Dp.lift hst hO h.2⟩⟩
instance {α β : Type} [Dp α] [Dp β] [h : Flat α] [h' : Flat β] : Flat (α × β) := ⟨fun w O x => ⟨h.h w O x.1, h'.h w O x.2⟩⟩

section
variable {w0 : World} {O : List Nat} {m : List As} {α β : Type}
instance (priority := high) tru_flat [Dp α] [h : Flat α] (x : α) : Tru w0 O x := ⟨h.h w0 O x⟩
instance (priority := high) truL_flat [Dp α] [h : Flat α] (l : List α) : TruL w0 O l := ⟨fun x _ => h.h w0 O x⟩
instance tru_pair [Dp α] [Dp β] {x : α} {y : β} [h : Tru w0 O x] [h' : Tru w0 O y] : Tru w0 O (x, y) := ⟨h.h, h'.h⟩
instance tru_fst [Dp α] [Dp β] {x : α × β} [h : Tru w0 O x] : Tru w0 O x.1 := ⟨h.h.1⟩
instance tru_snd [Dp α] [Dp β] {x : α × β} [h : Tru w0 O x] : Tru w0 O x.2 := ⟨h.h.2⟩
instance tru_get [Dp α] {l : List α} {j : Nat} {hj : j < l.length} [h : TruL w0 O l] : Tru w0 O (l[j]'hj) := ⟨h.h _ (List.getElem_mem hj)⟩
section
variable [Dp α] {l l' : List α} {x : α}
instance truL_nil : TruL w0 O ([] : List α) := ⟨fun _ h => by simp at h⟩
instance truL_cons [h : Tru w0 O x] [h' : TruL w0 O l] : TruL w0 O (x :: l) := ⟨fun y hy => by
  rcases List.mem_cons.1 hy with rfl | hy
  · exact h.h
  · exact h'.h y hy⟩
instance truL_app [h : TruL w0 O l] [h' : TruL w0 O l'] : TruL w0 O (l ++ l') := ⟨fun y hy => by
  rcases List.mem_append.1 hy with hy | hy
  · exact h.h y hy
  · exact h'.h y hy⟩
instance truL_take [h : TruL w0 O l] {k : Nat} : TruL w0 O (l.take k) := ⟨fun y hy => h.h y (List.mem_of_mem_take hy)⟩
instance truL_drop [h : TruL w0 O l] {k : Nat} : TruL w0 O (l.drop k) := ⟨fun y hy => h.h y (List.mem_of_mem_drop hy)⟩
instance truL_set [h : TruL w0 O l] [h' : Tru w0 O x] {k : Nat} : TruL w0 O (l.set k x) := ⟨fun y hy => by
  rcases List.mem_or_eq_of_mem_set hy with hy | rfl
  · exact h.h y hy
  · exact h'.h⟩
instance truL_rep [h' : Tru w0 O x] {k : Nat} : TruL w0 O (List.replicate k x) := ⟨fun y hy => by
  rw [(List.mem_replicate.1 hy).2]; exact h'.h⟩
end
section
variable [Elt α] [Dp α] {x : Sl α}
instance rdOld_tru [h : Tru w0 O x] : RdOld w0 O x.v x.l := ⟨h.h.1⟩
instance truL_tru [h : Tru w0 O x] : TruL w0 O x.l := ⟨h.h.2⟩
instance tru_slOf {v : Value} {l : List α} [One v] [h : RdOld w0 O v l] [h' : TruL w0 O l] : Tru w0 O (slOf v l) := ⟨h.old, h'.h⟩
instance tru_slMk {v : Value} {l : List α} {h1 : v.oneCell' = true} [h : RdOld w0 O v l] [h' : TruL w0 O l] : Tru w0 O (Sl.mk v l h1) := ⟨h.old, h'.h⟩
theorem rdO_nil (w0 : World) (O : List Nat) (sz : Nat) : RdO w0 O (.slice none 0 0) sz [] := ⟨rd_nil w0 sz, fun h => absurd h (by simp)⟩
instance tru_slNil : Tru w0 O (slNil : Sl α) := ⟨rdO_nil w0 O _, fun y hy => by simp [slNil] at hy⟩
instance (priority := high) rdOld_nil : RdOld w0 O (.slice none 0 0) ([] : List Int) := ⟨rdO_nil w0 O _⟩
end
end

theorem rdOld_cutT {w0 : World} {O : List Nat} {α : Type} [Elt α] {v : Value} {l : List α} {lo hi : Nat} (h : RdOld w0 O v l) (h1 : lo ≤ hi) (h2 : hi ≤ l.length) : RdOld w0 O (cut α v lo hi) ((l.drop lo).take (hi - lo)) := ⟨h.rd.cut h1 h2, fun hp b hb => by
  have hlen : ((l.drop lo).take (hi - lo)).length = hi - lo := by simp; omega
  rw [encs_length, hlen] at hp
  have hpos : 0 < hi - lo := Nat.pos_of_mul_pos_right hp
  obtain ⟨A, c, rfl, hc, _⟩ := h.rd.form
  have hne : ¬ c = lo := by omega
  simp only [cut, if_neg hne] at hb
  refine h.old.out (by rw [encs_length]; exact Nat.mul_pos (by omega) Elt.pos) b ?_
  cases A with
  | none => cases hb
  | some a =>
    simp only [Option.map_some, Value.at_, Option.some.injEq] at hb ⊢
    rw [← hb, add_block]⟩
theorem RdOld.rest {w0 : World} {O : List Nat} {α : Type} [Elt α] {v : Value} {l : List α} {lo : Nat} (h : RdOld w0 O v l) (h1 : lo ≤ l.length) : RdOld w0 O (cut α v lo l.length) (l.drop lo) := by
  have := rdOld_cutT h h1 (Nat.le_refl _)
  rwa [List.take_of_length_le (by simp)] at this
instance (priority := high) rdOld_rest {w0 : World} {O : List Nat} {α : Type} [Elt α] {v : Value} {l : List α} {lo : Nat} [h : RdOld w0 O v l] [hb : Fct (lo ≤ l.length ∧ l.length ≤ l.length)] : RdOld w0 O (cut α v lo l.length) (l.drop lo) := h.rest hb.out.1
instance rdOld_cut {w0 : World} {O : List Nat} {α : Type} [Elt α] {v : Value} {l : List α} {lo hi : Nat} [h : RdOld w0 O v l] [hb : Fct (lo ≤ hi ∧ hi ≤ l.length)] : RdOld w0 O (cut α v lo hi) ((l.drop lo).take (hi - lo)) := rdOld_cutT h hb.out.1 hb.out.2

theorem RdOld.isOne {w0 : World} {O : List Nat} {α : Type} [Elt α] {v : Value} {l : List α} (h : RdOld w0 O v l) : One v := ⟨by
  obtain ⟨A, c, e, _⟩ := h.rd.form
  rw [e]; rfl⟩
/-- a slice that reads so since the base -/
structure OldV (w0 : World) (O : List Nat) {α : Type} [Elt α] (l : List α) where
  v : Value
  h : RdOld w0 O v l
instance oldV_rd {w0 : World} {O : List Nat} {α : Type} [Elt α] {l : List α} (q : OldV w0 O l) : RdOld w0 O q.v l := q.h
instance oldV_one {w0 : World} {O : List Nat} {α : Type} [Elt α] {l : List α} (q : OldV w0 O l) : One q.v := q.h.isOne
/-- the base (w1, O1) lies behind the base (w0, O), in any number of steps -/
class RebT (w0 : World) (O : List Nat) (w1 : World) (O1 : List Nat) : Prop where
  h : ∀ m w, St w1 O1 m w → St w0 O m w
section
variable {w0 w1 w2 : World} {O O1 O2 : List Nat} {m : List As} {α : Type}
instance (priority := high) rebT_refl : RebT w0 O w0 O := ⟨fun _ _ h => h⟩
instance rebT_step [h : Reb w1 O1 w2 O2] [h' : RebT w0 O w1 O1] : RebT w0 O w2 O2 := ⟨fun _ _ hw => h'.h _ _ (h.st hw)⟩
instance (priority := low) tru_lift [Dp α] {x : α} [h : Reb w0 O w1 O1] [h' : Tru w0 O x] : Tru w1 O1 x := ⟨by
  obtain ⟨m, h1, h2⟩ := h.new
  exact Dp.lift h1 h2 h'.h⟩
instance (priority := low) truL_lift [Dp α] {l : List α} [h : Reb w0 O w1 O1] [h' : TruL w0 O l] : TruL w1 O1 l := ⟨fun x hx => by
  obtain ⟨m, h1, h2⟩ := h.new
  exact Dp.lift h1 h2 (h'.h x hx)⟩
instance (priority := low) rdOld_lift [Elt α] {v : Value} {l : List α} [h : Reb w0 O w1 O1] [h' : RdOld w0 O v l] : RdOld w1 O1 v l := ⟨by
  obtain ⟨m, h1, h2⟩ := h.new
  exact h'.old.new h1 h2⟩
/-- the base is set to now -/
theorem St.now (hw : St w0 O m w1) : St w1 (foots m) m w1 := ⟨rfl, rfl, rfl, Nat.le_refl _, fun _ _ _ => rfl, hw.ok, hw.nodup, fun b hb => .inr hb⟩
end

section
variable {ro : Option Nat} {P : Program} {N : Nat} {D : List Deferred} {w0 : World} {O : List Nat} {ops : Array Oper} {l : List Oper} {s : List (Nat × Value)} {m : List As} {Q : Exit → Act → World → Prop}
variable {d : Nat} {ty : TypeId} {pos : String} {af : Array Edge}

/-- the row that v is -/
class OwnV (v : Value) (m : List As) (e : outParam TypeId) {α : outParam Type} [i : outParam (Elt α)] (l : outParam (List α)) (mk : outParam (List As)) : Prop where
  ent : Ent m (row v e l :: mk)
instance (priority := high) ownV_here {α : Type} [Elt α] {v : Value} {e : TypeId} {xs : List α} {m : List As} : OwnV v (row v e xs :: m) e xs m := ⟨Ent.refl _⟩
instance (priority := high) ownV_lit {α : Type} [Elt α] {v : Value} {e : TypeId} {xs : List α} {m : List As} : OwnV v (lit v e xs :: m) e xs m := ⟨Ent.refl _⟩
instance (priority := low) ownV_there {α : Type} [Elt α] {v : Value} {e : TypeId} {xs : List α} {m mk : List As} {x : As} [h : OwnV v m e xs mk] : OwnV v (x :: m) e xs (x :: mk) := ⟨h.ent.skip x⟩
/-- a row that is not held any more lies still -/
theorem frz {α : Type} [Elt α] {v : Value} {e : TypeId} {xs : List α} {mk : List As} {w : World} (hw : St w0 O m w) [h : OwnV v m e xs mk] : St w0 O mk w ∧ RdOld w (foots mk) v xs ∧ One v := by
  have h1 := h.ent.st hw
  have h2 : RdO w (foots mk) v (Elt.sz α) (encs xs) := by
    have hr : Rd w v (Elt.sz α) (encs xs) := rd_own (row_ok (h1.ok _ (List.Mem.head _)))
    refine ⟨hr, fun hp b hb hbO => ?_⟩
    have hn := h1.nodup
    rw [List.flatMap_cons, List.nodup_append] at hn
    obtain ⟨_, h3⟩ := row_ok (h1.ok _ (List.Mem.head _))
    rcases h3 with ⟨rfl, _⟩ | ⟨g, cap, cur, rfl, _⟩
    · cases hb
    · simp only [Value.at_, Option.some.injEq] at hb
      subst hb
      exact hn.2.2 g (by simp [row, As.foot, Value.ownBlock]) g hbO rfl
  refine ⟨h1.drop (List.sublist_cons_self _ _), ⟨h2⟩, ?_⟩
  obtain ⟨A, n, c, rfl, _⟩ := h2.rd
  exact ⟨rfl⟩

theorem G_frz {α : Type} [Elt α] (v : Value) {e : TypeId} {xs : List α} {mk : List As} [h : OwnV v m e xs mk] (k : ∀ w1 [Reb w0 O w1 (foots mk)] [RdOld w1 (foots mk) v xs] [One v], G ro P N D w1 (foots mk) ops l s mk Q) : G ro P N D w0 O ops l s m Q := fun a w hs hd hm => by
  obtain ⟨h1, h2, h3⟩ := frz (v := v) (xs := xs) (e := e) (mk := mk) hm
  haveI := Reb.of h1
  exact k w a w hs hd h1.now
theorem GC_frz {α : Type} [Elt α] (v : Value) {e : TypeId} {xs : List α} {mk : List As} {c : Code} [h : OwnV v m e xs mk] (k : ∀ w1 [Reb w0 O w1 (foots mk)] [RdOld w1 (foots mk) v xs] [One v], GC ro P N D w1 (foots mk) c s mk Q) : GC ro P N D w0 O c s m Q := fun a w hs hd hm => by
  obtain ⟨h1, h2, h3⟩ := frz (v := v) (xs := xs) (e := e) (mk := mk) hm
  haveI := Reb.of h1
  exact k w a w hs hd h1.now
theorem At_frz {α : Type} [Elt α] (v : Value) {e : TypeId} {xs : List α} {mk : List As} {x : Exit} [h : OwnV v m e xs mk] (k : ∀ w1 [Reb w0 O w1 (foots mk)] [RdOld w1 (foots mk) v xs] [One v], At N D w1 (foots mk) x s mk Q) : At N D w0 O x s m Q := fun a w hs hd hm => by
  obtain ⟨h1, h2, h3⟩ := frz (v := v) (xs := xs) (e := e) (mk := mk) hm
  haveI := Reb.of h1
  exact k w a w hs hd h1.now
/-- the base is set to now, less is held -/
theorem At_reb {mk : List As} {x : Exit} [h : SubM m mk] (k : ∀ w1 [Reb w0 O w1 (foots mk)], At N D w1 (foots mk) x s mk Q) : At N D w0 O x s m Q := fun a w hs hd hm => by
  have h1 := h.ent.st hm
  haveI := Reb.of h1
  exact k w a w hs hd h1.now

/-! ### Calls -/
/-- what a call gives back whose results are data: V i, and what is said of memory then -/
def RetD (w0 : World) (O : List Nat) (m : List As) {ι : Type} (Φ : ι → Prop) (V : ι → Value) (T : ι → World → List Nat → Prop) (e : Ending) (w : World) : Prop := ∃ i, Φ i ∧ e = .returned (V i) ∧ St w0 O m w ∧ T i w (foots m)
class CallD (P : Program) (w0 : World) (O : List Nat) (m : List As) (f : FuncId) (args : List Value) (side : outParam Prop) {ι : outParam Type} (Φ : outParam (ι → Prop)) (V : outParam (ι → Value)) (T : outParam (ι → World → List Nat → Prop)) : Prop where
  call : side → ∀ w, St w0 O m w → Calls P f args.toArray w (RetD w0 O m Φ V T)

theorem G_callD {f : FuncId} {args : Array Operand} {at_ : Array TypeId} {x : Operand} {first cap vals r1 all : List Value} {side : Prop} {ι : Type} {Φ : ι → Prop} {V : ι → Value} {T : ι → World → List Nat → Prop}
    [he : En P f] (hf : ev s x = some (.func (.func f) first.toArray cap.toArray)) (ha : evs s args.toList = some vals) (hN : Nat.blt d N = true) [e1 : AppL first vals r1] [e2 : AppL r1 cap all]
    [hc : CallD P w0 O m f all side Φ V T] (k : ∀ i, Φ i → ∀ w1 [Reb w0 O w1 (foots m)], T i w1 (foots m) → G ro P N D w1 (foots m) ops l ((d, V i) :: s) m Q) (hsd : side := by first | exact trivial | omega | (simp only [true_and, and_true, and_self]; omega) | exact ⟨trivial, rfl⟩ | exact ⟨rfl, rfl, by decide⟩ | rfl | (simp only [true_and, and_true, and_self]; done) | decide | assumption | exact ⟨by assumption, by omega⟩ | exact ⟨by assumption, by assumption⟩ | exact ⟨by assumption, by assumption, by omega⟩ | (with_reducible refine And.intro ?_ ?_ <;> first | exact True.intro | omega | assumption | (with_reducible refine And.intro ?_ ?_ <;> first | exact True.intro | omega | assumption | (with_reducible refine And.intro ?_ ?_ <;> first | exact True.intro | omega | assumption)))) :
    G ro P N D w0 O ops (⟨some d, .call ⟨.value x, args, at_⟩, ty, pos, af, none⟩ :: l) s m Q := fun a w hs hdf hm => by
  have e1 := e1.eq; have e2 := e2.eq
  subst e1 e2
  have h1 : args.map a.eval = vals.toArray := by rw [← evs_map hs ha]; apply Array.ext'; simp
  simp only [wpL, Region.wanted, if_true]
  refine ⟨fun _ _ => trivial, ?_⟩
  rw [Oper.semAt_eq _ _ _ (by simp)]
  have hrun : (execOp a.eval ⟨some d, .call ⟨.value x, args, at_⟩, ty, pos, af, none⟩).run P w = .ok (.enter f (first ++ vals ++ cap).toArray) w := by
    have h2 := he.run (first ++ vals ++ cap).toArray w
    have e3 : first.toArray ++ vals.toArray ++ cap.toArray = (first ++ vals ++ cap).toArray := by simp
    simp only [execOp, resolve, hs.ev hf, Deferred.ofValue, h1, Sem.run_bind, Sem.run_pure, Result.andThen, invoke, e3, h2]
  rw [hrun, Oper.uponIn_enter]
  refine ⟨fun h => by simp [FW] at h, callsFW ((hc.call hsd w hm).mono ?_)⟩
  rintro e w' ⟨i, hi, rfl, hst, ht⟩
  haveI := Reb.of hst
  exact k i hi w' ht _ _ (hs.put d (V i) hN) (by simpa [Act.put] using hdf) hst.now

/-- a function's end -/
theorem RetD.mk {ι : Type} {w1 w' : World} {O1 : List Nat} {m' : List As} {Φ : ι → Prop} {V : ι → Value} {T : ι → World → List Nat → Prop} {e : Ending} (i : ι) (hi : Φ i) (he : e = .returned (V i)) (h : St w1 O1 m' w') [hb : RebT w0 O w1 O1] [hm : SubM m' m]
    (ht : ∀ [Reb w1 O1 w' (foots m)], T i w' (foots m)) : RetD w0 O m Φ V T e w' := by
  have h1 := hm.ent.st h
  haveI := Reb.of h1
  exact ⟨i, hi, he, hb.h _ _ h1, ht⟩
/-- .. that hands back plain values, or rows -/
theorem Is.mkB {w w1 w' : World} {O1 : List Nat} {v : Value} {m' : List As} {e : Ending} (he : e = .returned v) (h : St w1 O1 m' w') [hb : RebT w [] w1 O1] : Is w v e w' := ⟨he, hb.h _ _ (h.drop (List.nil_sublist _))⟩
theorem Ret.mkB {ι : Type} {w w1 w' : World} {O1 : List Nat} {Φ : ι → Prop} {V : ι → Value} {M : ι → List As} {m' : List As} {e : Ending} (i : ι) (hi : Φ i) (he : e = .returned (V i)) (h : St w1 O1 m' w') [hm : SubM m' (M i)] [hb : RebT w [] w1 O1] : Ret w [] Φ V M e w' := ⟨i, hi, he, hb.h _ _ (hm.ent.st h)⟩

/-! ### Rows let go where a call wants them so -/
/-- a function that wants its rows frozen -/
class FrzF (f : FuncId) : Prop where
  ok : True
/-- a row was frozen: the base moved from (w0, O) to (w1, O1) -/
class FrzK (w0 : outParam World) (O : outParam (List Nat)) (w1 : World) (O1 : List Nat) (v : outParam Value) {α : outParam Type} [i : outParam (Elt α)] (xs : outParam (List α)) : Prop where
  reb : Reb w0 O w1 O1
  rd : RdOld w1 O1 v xs
  one : One v
instance frzK_reb {w1 : World} {O1 : List Nat} {v : Value} {α : Type} [Elt α] {xs : List α} [h : FrzK w0 O w1 O1 v xs] : Reb w0 O w1 O1 := h.reb
instance (priority := high) frzK_rd {w1 : World} {O1 : List Nat} {v : Value} {α : Type} [Elt α] {xs : List α} [h : FrzK w0 O w1 O1 v xs] : RdOld w1 O1 v xs := h.rd
/-- the first of the values that is a row of the call's own -/
class FrzA (vs : List Value) (m : List As) (v : outParam Value) (e : outParam TypeId) {α : outParam Type} [i : outParam (Elt α)] (xs : outParam (List α)) (mk : outParam (List As)) : Prop where
  h : OwnV v m e xs mk
instance (priority := high) frzA_here {v : Value} {vs : List Value} {e : TypeId} {α : Type} [Elt α] {xs : List α} {mk : List As} [h : OwnV v m e xs mk] : FrzA (v :: vs) m v e xs mk := ⟨h⟩
instance (priority := low) frzA_there {v u : Value} {vs : List Value} {e : TypeId} {α : Type} [Elt α] {xs : List α} {mk : List As} [h : FrzA vs m v e xs mk] : FrzA (u :: vs) m v e xs mk := ⟨h.h⟩
theorem G_frzA {f : FuncId} {args : Array Operand} {at_ : Array TypeId} {x : Operand} {first cap vals : List Value} {v : Value} {e : TypeId} {α : Type} [Elt α] {xs : List α} {mk : List As} [hF : FrzF f]
    (hf : ev s x = some (.func (.func f) first.toArray cap.toArray)) (ha : evs s args.toList = some vals) [h : FrzA vals m v e xs mk]
    (k : ∀ w1, FrzK w0 O w1 (foots mk) v xs → G ro P N D w1 (foots mk) ops (⟨some d, .call ⟨.value x, args, at_⟩, ty, pos, af, none⟩ :: l) s mk Q) :
    G ro P N D w0 O ops (⟨some d, .call ⟨.value x, args, at_⟩, ty, pos, af, none⟩ :: l) s m Q := by
  haveI := h.h
  exact G_frz v fun w1 h1 h2 h3 => k w1 ⟨h1, h2, h3⟩

/-! ### Loops whose base moves on -/
def RoundD (N : Nat) (D : List Deferred) (w0 : World) (O : List Nat) {X : Type} (Φ : World → List Nat → X → Prop) (ex : X → List (Nat × Value) → List (Nat × Value)) (s0 : List (Nat × Value)) (mx : X → List As → List As) (mk : List As) (μ : X → Nat) (b : Nat) (Q : Exit → Act → World → Prop) : Exit → Act → World → Prop :=
  Exit.then (fun a w => ∃ x', Φ w (foots (mx x' mk)) x' ∧ μ x' < b ∧ Has N (ex x' s0) a ∧ a.defers = D ∧ St w0 O (mx x' mk) w) Q

section
variable {X : Type} {s0 : List (Nat × Value)} {want mk : List As} {Φ : World → List Nat → X → Prop} {ex : X → List (Nat × Value) → List (Nat × Value)} {mx : X → List As → List As} {μ : X → Nat} {b : Nat} {wa : World} {Oa : List Nat}
theorem At_roundD_exit {id : Nat} (h : At N D w0 O (.exit id) s m Q) : At N D w0 O (.exit id) s m (RoundD N D wa Oa Φ ex s0 mx mk μ b Q) := h
theorem At_roundD_ret (h : At N D w0 O .ret s m Q) : At N D w0 O .ret s m (RoundD N D wa Oa Φ ex s0 mx mk μ b Q) := h
/-- a round's end -/
theorem At_roundD (x' : X) (hx : ∀ w [Reb w0 O w (foots (mx x' mk))], Φ w (foots (mx x' mk)) x') (hlt : μ x' < b) (hs : subs s (ex x' [])) (hf : frame s (keysOf (ex x' [])) s0) [hb : RebT wa Oa w0 O] [hm : SubM m want] (hw : mx x' mk = want := by exact rfl)
    (hex : ex x' s0 = ex x' [] ++ s0 := by rfl) :
    At N D w0 O .normal s m (RoundD N D wa Oa Φ ex s0 mx mk μ b Q) := fun a w hsa hd hma => by
  have h1 : St w0 O (mx x' mk) w := by rw [hw]; exact hm.ent.st hma
  haveI := Reb.of h1
  exact ⟨x', hx w, hlt, ⟨hsa.size, fun t v h => hsa.at_ t v (frame_app hs hf t v (by rw [← hex]; exact h))⟩, hd, hb.h _ _ h1⟩
end
theorem GC_loopDG {X : Type} {c : Code} {mk : List As} (Φ : World → List Nat → X → Prop) (ex : X → List (Nat × Value) → List (Nat × Value)) (mx : X → List As → List As) (μ : X → Nat) (x0 : X) (h0 : ∀ w [Reb w0 O w (foots (mx x0 mk))], Φ w (foots (mx x0 mk)) x0) (hs : subs s (ex x0 []))
    (round : ∀ x w1 [Reb w0 O w1 (foots (mx x mk))], Φ w1 (foots (mx x mk)) x → GC ro P N D w1 (foots (mx x mk)) c (ex x s) (mx x mk) (RoundD N D w0 O Φ ex s mx mk μ (μ x) Q)) (hm : ∀ w, St w0 O m w → St w0 O (mx x0 mk) w)
    (hex : ∀ x r, ex x r = ex x [] ++ r := by exact fun _ _ => rfl) : GC ro P N D w0 O (.loop c) s m Q := fun a w hs' hd hm' => by
  intro b k cs hro hb hr
  have key : ∀ j x a w, μ x = j → Φ w (foots (mx x mk)) x → Has N (ex x s) a → a.defers = D → St w0 O (mx x mk) w →
      ∃ e a' w', Q e a' w' ∧ ArrivesIn (Machine.fenced P (FW ro)) P (lone (b.atR a (.code c :: .inLoop c :: k)) cs w) b k cs e a' w' := by
    intro j
    induction j using Nat.strongRecOn with
    | _ j ih =>
      intro x a w hn hx hsx hdx hmx
      haveI := Reb.of hmx
      obtain ⟨e, a₁, w₁, hq, harr⟩ := round x w hx a w hsx hdx hmx.now b (.inLoop c :: k) cs hro hb hr
      cases e with
      | normal =>
        obtain ⟨x', hx', hlt, hs1, hd1, hm1⟩ := hq
        obtain ⟨e₂, a₂, w₂, hq₂, harr₂⟩ := ih (μ x') (hn ▸ hlt) x' a₁ w₁ rfl hx' hs1 hd1 hm1
        exact ⟨e₂, a₂, w₂, hq₂, .of_steps (StepsIn.trans harr (.one (fenced_calm hb hr rfl) stepR_inLoop)) harr₂⟩
      | exit id => exact ⟨_, a₁, w₁, hq, .pass (x := .inLoop c) rfl (fun _ _ => .inl (by simp)) harr⟩
      | goto l => exact ⟨_, a₁, w₁, hq, .pass (x := .inLoop c) rfl (fun _ _ => .inl (by simp)) harr⟩
      | ret => exact ⟨_, a₁, w₁, hq, .pass (x := .inLoop c) rfl (fun _ _ => .inl (by simp)) harr⟩
      | panic ch => exact ⟨_, a₁, w₁, hq, .pass (x := .inLoop c) rfl (fun _ _ => .inl (by simp)) harr⟩
      | outgrown => exact ⟨_, a₁, w₁, hq, .pass (x := .inLoop c) rfl (fun _ _ => .inl (by simp)) harr⟩
  have hm2 : St w0 O (mx x0 mk) w := hm w hm'
  haveI := Reb.of hm2
  obtain ⟨e, a', w', hq, harr⟩ := key _ x0 a w rfl (h0 w) ⟨hs'.size, fun t v h => hs'.at_ t v (subs_app hs t v (by rw [← hex]; exact h))⟩ hd hm2
  exact ⟨e, a', w', hq, .of_steps (.one (fenced_calm hb hr rfl) stepR_loop) harr⟩

/-- A loop: each round has a base of its own. -/
theorem GC_loopD {X : Type} {c : Code} {want mk : List As} (Φ : World → List Nat → X → Prop) (ex : X → List (Nat × Value) → List (Nat × Value)) (mx : X → List As → List As) (μ : X → Nat) (x0 : X) (h0 : ∀ w [Reb w0 O w (foots (mx x0 mk))], Φ w (foots (mx x0 mk)) x0) (hs : subs s (ex x0 []))
    (round : ∀ x w1 [Reb w0 O w1 (foots (mx x mk))], Φ w1 (foots (mx x mk)) x → GC ro P N D w1 (foots (mx x mk)) c (ex x s) (mx x mk) (RoundD N D w0 O Φ ex s mx mk μ (μ x) Q)) [hm : SplitM m want mk]
    (hm0 : mx x0 [] = want := by first | ((simp only [List.append_nil, List.nil_append, List.take_zero, List.drop_zero, List.map_nil, List.foldl_nil, List.length_nil, List.reverse_nil, List.flatMap_nil, List.replicate_zero]); exact rfl) | exact rfl)
    (hex : ∀ x r, ex x r = ex x [] ++ r := by exact fun _ _ => rfl) (hmx : ∀ x r, mx x r = mx x [] ++ r := by exact fun _ _ => rfl) : GC ro P N D w0 O (.loop c) s m Q :=
  GC_loopDG Φ ex mx μ x0 h0 hs round (fun w hw => by rw [hmx, hm0]; exact hm.ent.st hw) hex
/-- .. whose memory is told whole -/
theorem GC_loopE {X : Type} {c : Code} {want : List As} (Φ : World → List Nat → X → Prop) (ex : X → List (Nat × Value) → List (Nat × Value)) (M : X → List As) (μ : X → Nat) (x0 : X) (h0 : ∀ w [Reb w0 O w (foots (M x0))], Φ w (foots (M x0)) x0) (hs : subs s (ex x0 []))
    (round : ∀ x w1 [Reb w0 O w1 (foots (M x))], Φ w1 (foots (M x)) x → GC ro P N D w1 (foots (M x)) c (ex x s) (M x) (RoundD N D w0 O Φ ex s (fun x _ => M x) [] μ (μ x) Q)) [hm : SubM m want]
    (hm0 : M x0 = want := by exact rfl) (hex : ∀ x r, ex x r = ex x [] ++ r := by exact fun _ _ => rfl) : GC ro P N D w0 O (.loop c) s m Q :=
  GC_loopDG Φ ex (fun x _ => M x) (mk := []) μ x0 h0 hs round (fun w hw => by rw [hm0]; exact hm.ent.st hw) hex

/-! ### Slices of slices, built -/
/-- the value v is a's -/
class DecW (w0 : World) (O : List Nat) (m : List As) (α : Type) [Elt α] (v : Value) (a : outParam α) : Prop where
  eq : Elt.val a = v
class DecWL (w0 : World) (O : List Nat) (m : List As) (α : Type) [Elt α] (vs : List Value) (l : outParam (List α)) : Prop where
  eq : l.map Elt.val = vs
instance decWL_nil {α : Type} [Elt α] : DecWL w0 O m α [] [] := ⟨rfl⟩
instance decWL_cons {α : Type} [Elt α] {v : Value} {vs : List Value} {a : α} {l : List α} [h : DecW w0 O m α v a] [h' : DecWL w0 O m α vs l] : DecWL w0 O m α (v :: vs) (a :: l) := ⟨by rw [List.map_cons, h.eq, h'.eq]⟩
instance (priority := high) decW_sl {α : Type} {x : Sl α} : DecW w0 O m (Sl α) x.v x := ⟨rfl⟩
instance (priority := high) decW_nil {α : Type} : DecW w0 O m (Sl α) (.slice none 0 0) slNil := ⟨rfl⟩
instance decW_old {α : Type} [Elt α] {v : Value} {xs : List α} [One v] [h : RdOld w0 O v xs] : DecW w0 O m (Sl α) v (slOf v xs) := ⟨rfl⟩
theorem G_litD {α : Type} [Elt α] {t e : TypeId} {zs : List Value} {bs : Nat} {n : Nat} {parts : Array (Nat × Operand)} {vals : List Value} {xs : List α} [ht : Und P t (.slice e)] [hL : Lay P e α] [hR : Rw P e zs bs]
    (hv : evs s (parts.toList.map (·.2)) = some vals) (hi : parts.toList.map (·.1) = List.range n) (hn : Nat.beq parts.size n = true) (hsz : Nat.ble (n * zs.length) 10000 = true) (hN : Nat.blt d N = true) [hl : DecWL w0 O m α vals xs]
    (k : ∀ v, G ro P N D w0 O ops l ((d, v) :: s) (lit v e xs :: m) Q) :
    G ro P N D w0 O ops (⟨some d, .buildSlice t n parts, ty, pos, af, none⟩ :: l) s m Q :=
  G_litE hv hi hn hsz hN hl.eq.symm k
instance decW_str {b : ByteArray} : DecW w0 O m ByteArray (.string b) b := ⟨rfl⟩
end
end Go.Proofs.Ytnncjfphdcfimaa
