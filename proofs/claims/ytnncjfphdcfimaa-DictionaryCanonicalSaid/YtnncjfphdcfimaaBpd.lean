/- Bitpack: numbers as bits and bytes; packed forms (plain). -/
import Derived.Test.YtnncjfphdcfimaaBpc
set_option linter.unusedVariables false
set_option linter.unusedSimpArgs false
set_option maxRecDepth 100000
set_option maxHeartbeats 4000000
namespace Go.Proofs.Ytnncjfphdcfimaa
open Go.RowKit
attribute [local irreducible] G GC At wpL DR XPost CPost Cut GA GAR GAX GAt NxA GH GHR NxH

/-- the number whose digits below n are told by f -/
def bitsN (f : Nat → Bool) : Nat → Nat
  | 0 => 0
  | n + 1 => if f n then bitsN f n ||| 2 ^ n else bitsN f n
theorem bitsN_test (f : Nat → Bool) : ∀ n t, (bitsN f n).testBit t = (decide (t < n) && f t)
  | 0, t => by simp [bitsN]
  | n + 1, t => by
    have key : ∀ b, b = (decide (t < n) && f t) → ∀ c, (c = true → t = n ∧ f n = true) → (t = n → f n = true → c = true) → (b || c) = (decide (t < n + 1) && f t) := by
      intro b hb c h1 h2
      subst hb
      by_cases e : t = n
      · subst e
        cases hf : f t <;> cases c <;> simp_all
      · have : c = false := by
          cases hc : c with
          | false => rfl
          | true => exact absurd (h1 hc).1 e
        subst this
        have e2 : decide (t < n) = decide (t < n + 1) := by
          by_cases h : t < n
          · rw [decide_eq_true h, decide_eq_true (by omega)]
          · rw [decide_eq_false h, decide_eq_false (by omega)]
        rw [e2, Bool.or_false]
    rw [bitsN]
    cases hf : f n with
    | true =>
      rw [if_pos rfl, Nat.testBit_or, Nat.testBit_two_pow]
      exact key _ (bitsN_test f n t) _ (fun h => ⟨(of_decide_eq_true h).symm, hf⟩) (fun h _ => decide_eq_true h.symm)
    | false =>
      rw [if_neg (by simp), ← Bool.or_false ((bitsN f n).testBit t)]
      exact key _ (bitsN_test f n t) false (by simp) (fun _ h => by rw [hf] at h; cases h)
theorem bitsN_lt (f : Nat → Bool) (n : Nat) : bitsN f n < 2 ^ n :=
  Nat.lt_pow_two_of_testBit _ fun i hi => by rw [bitsN_test]; simp; omega
theorem bitsN_congr {f g : Nat → Bool} : ∀ {n}, (∀ t, t < n → f t = g t) → bitsN f n = bitsN g n
  | 0, _ => rfl
  | n + 1, h => by rw [bitsN, bitsN, bitsN_congr (fun t ht => h t (by omega)), h n (by omega)]
theorem bitsN_self {x n : Nat} (h : x < 2 ^ n) : bitsN x.testBit n = x := by
  apply Nat.eq_of_testBit_eq
  intro i
  rw [bitsN_test]
  by_cases hi : i < n
  · simp [hi]
  · have : x.testBit i = false := Nat.testBit_lt_two_pow (Nat.lt_of_lt_of_le h (Nat.pow_le_pow_right (by omega) (by omega)))
    simp [hi, this]

/-- a number's low bytes, the lowest first -/
def leB (n : Nat) : Nat → List (BitVec 8)
  | 0 => []
  | k + 1 => BitVec.ofNat 8 n :: leB (n / 256) k
@[simp] theorem leB_length : ∀ (k n : Nat), (leB n k).length = k
  | 0, _ => rfl
  | k + 1, n => by simp [leB, leB_length k]
theorem leB_get : ∀ (k n j : Nat) (h : j < k), (leB n k)[j]'(by simpa using h) = BitVec.ofNat 8 (n / 256 ^ j)
  | k + 1, n, 0, h => by simp [leB]
  | k + 1, n, j + 1, h => by
    simp only [leB, List.getElem_cons_succ]
    rw [leB_get k (n / 256) j (by omega), Nat.div_div_eq_div_mul, Nat.pow_succ, Nat.mul_comm 256]
theorem leB_zero : ∀ k, leB 0 k = List.replicate k 0#8
  | 0 => rfl
  | k + 1 => by simp [leB, leB_zero k, List.replicate_succ]
theorem byte_bit (n j i : Nat) (hi : i < 8) : (BitVec.ofNat 8 (n / 256 ^ j)).getLsbD i = n.testBit (i + 8 * j) := by
  rw [BitVec.getLsbD_ofNat, Nat.testBit_add, show 2 ^ (8 * j) = 256 ^ j by rw [Nat.pow_mul]]
  simp [hi]
/-- the bit at t of bytes -/
theorem leB_bit {n k t : Nat} (h : t / 8 < k) : ((leB n k)[t / 8]'(by simpa using h)).getLsbD (t % 8) = n.testBit t := by
  rw [leB_get k n _ h, byte_bit _ _ _ (Nat.mod_lt _ (by omega))]
  congr 1; omega
theorem leB_set {n k t : Nat} (h : t / 8 < k) : (leB n k).set (t / 8) ((leB n k)[t / 8]'(by simpa using h) ||| 1#8 <<< (t % 8)) = leB (n ||| 2 ^ t) k := by
  apply List.ext_getElem
  · simp
  · intro j h1 h2
    simp only [List.length_set, leB_length] at h1
    rw [List.getElem_set]
    split
    · rename_i e
      subst e
      rw [leB_get k n _ h, leB_get k _ _ h]
      apply BitVec.eq_of_getLsbD_eq
      intro i hi
      rw [BitVec.getLsbD_or, byte_bit _ _ _ hi, byte_bit _ _ _ hi, Nat.testBit_or, Nat.testBit_two_pow, BitVec.getLsbD_shiftLeft]
      congr 1
      have e1 : (1#8).getLsbD (i - t % 8) = decide (i - t % 8 = 0) := by
        rw [BitVec.getLsbD_one]; simp
      rw [e1]
      by_cases e2 : t = i + 8 * (t / 8)
      · have : i = t % 8 := by omega
        simp [hi, ← this, ← e2]
      · have : ¬ i = t % 8 := by omega
        by_cases e3 : i < t % 8
        · simp [e3, e2]
        · have : ¬ i - t % 8 = 0 := by omega
          simp [this, e2]
    · rename_i e
      rw [leB_get k n j h1, leB_get k _ j h1]
      apply BitVec.eq_of_getLsbD_eq
      intro i hi
      rw [byte_bit _ _ _ hi, byte_bit _ _ _ hi, Nat.testBit_or, Nat.testBit_two_pow]
      have : ¬ t = i + 8 * j := by omega
      simp [this]

/-! ### The packed form of a list -/
/-- the differences from the least element -/
def dif (base : Int) (x : Int) : BitVec 64 := BitVec.ofInt 64 x - BitVec.ofInt 64 base
/-- the digit at t of numbers of w digits each -/
def bf (w : Nat) (ds : List (BitVec 64)) (t : Nat) : Bool := (ds.getD (t / w) 0#64).getLsbD (t % w)
def wid (l : List Int) : Nat := blen (dif (lmin l) (lmax l)).toNat
def siz (n w : Nat) : Nat := (n * w + 7) / 8
def bodyB (base : Int) (w : Nat) (l : List Int) : List (BitVec 8) := leB (bitsN (bf w (l.map (dif base))) (l.length * w)) (siz l.length w)
def packB (l : List Int) : List (BitVec 8) :=
  if l.length = 0 then vint 0#64
  else vint (BitVec.ofNat 64 l.length) ++ vint (zig (lmin l)) ++ [BitVec.ofNat 8 (wid l)] ++ bodyB (lmin l) (wid l) l
theorem wid_le (l : List Int) : wid l ≤ 64 := blen_64 _
theorem vint_length : ∀ (k : Nat) (u : BitVec 64), u.toNat < 128 ^ k → 0 < k → (vint u).length ≤ k
  | 0, _, _, h => by omega
  | k + 1, u, h, _ => by
    by_cases hu : 127 < u.toNat
    · rw [vint_more u hu, List.length_cons]
      have h7 := shr7 u
      rw [Nat.pow_succ] at h
      have hk : 0 < k := by
        rcases Nat.eq_zero_or_pos k with h0 | h0
        · subst h0; simp at h; omega
        · exact h0
      have := vint_length k (u >>> 7) (by rw [h7]; omega) hk
      omega
    · rw [vint_last u hu]; simp
theorem vint_10 (u : BitVec 64) : (vint u).length ≤ 10 := vint_length 10 u (Nat.lt_of_lt_of_le u.isLt (by decide)) (by decide)

theorem lmin_le {l : List Int} : ∀ x ∈ l, lmin l ≤ x := by
  have key : ∀ (r : List Int) (a : Int), r.foldl min a ≤ a ∧ ∀ x ∈ r, r.foldl min a ≤ x := by
    intro r
    induction r with
    | nil => intro a; simp
    | cons y r ih =>
      intro a
      rw [List.foldl_cons]
      obtain ⟨h1, h2⟩ := ih (min a y)
      refine ⟨by omega, fun x hx => ?_⟩
      rcases List.mem_cons.1 hx with rfl | hx
      · omega
      · exact h2 x hx
  cases l with
  | nil => simp
  | cons a r =>
    intro x hx
    have := key r a
    rcases List.mem_cons.1 hx with rfl | hx
    · exact this.1
    · exact this.2 x hx
theorem le_lmax {l : List Int} : ∀ x ∈ l, x ≤ lmax l := by
  have key : ∀ (r : List Int) (a : Int), a ≤ r.foldl max a ∧ ∀ x ∈ r, x ≤ r.foldl max a := by
    intro r
    induction r with
    | nil => intro a; simp
    | cons y r ih =>
      intro a
      rw [List.foldl_cons]
      obtain ⟨h1, h2⟩ := ih (max a y)
      refine ⟨by omega, fun x hx => ?_⟩
      rcases List.mem_cons.1 hx with rfl | hx
      · omega
      · exact h2 x hx
  cases l with
  | nil => simp
  | cons a r =>
    intro x hx
    have := key r a
    rcases List.mem_cons.1 hx with rfl | hx
    · exact this.1
    · exact this.2 x hx
theorem lmin_mem {l : List Int} (h : 0 < l.length) : lmin l ∈ l := by
  have key : ∀ (r : List Int) (a : Int), r.foldl min a = a ∨ r.foldl min a ∈ r := by
    intro r
    induction r with
    | nil => intro a; simp
    | cons y r ih =>
      intro a
      rw [List.foldl_cons]
      rcases ih (min a y) with h | h
      · rw [h]
        rcases Int.le_total a y with h2 | h2
        · left; omega
        · right; rw [Int.min_eq_right h2]; simp
      · right; exact List.mem_cons_of_mem _ h
  cases l with
  | nil => simp at h
  | cons a r =>
    rcases key r a with h | h
    · simp [lmin, h]
    · exact List.mem_cons_of_mem _ h
theorem lmax_mem {l : List Int} (h : 0 < l.length) : lmax l ∈ l := by
  have key : ∀ (r : List Int) (a : Int), r.foldl max a = a ∨ r.foldl max a ∈ r := by
    intro r
    induction r with
    | nil => intro a; simp
    | cons y r ih =>
      intro a
      rw [List.foldl_cons]
      rcases ih (max a y) with h | h
      · rw [h]
        rcases Int.le_total a y with h2 | h2
        · right; rw [Int.max_eq_right h2]; simp
        · left; omega
      · right; exact List.mem_cons_of_mem _ h
  cases l with
  | nil => simp at h
  | cons a r =>
    rcases key r a with h | h
    · simp [lmax, h]
    · exact List.mem_cons_of_mem _ h

/-- an int's range -/
def okI (l : List Int) : Prop := ∀ x ∈ l, -9223372036854775808 ≤ x ∧ x ≤ 9223372036854775807
theorem dif_toNat {a x : Int} (h1 : -9223372036854775808 ≤ a) (h2 : x ≤ 9223372036854775807) (h : a ≤ x) : (dif a x).toNat = (x - a).toNat := by
  unfold dif
  rw [BitVec.toNat_sub, BitVec.toNat_ofInt, BitVec.toNat_ofInt]
  omega
theorem bf_at {w : Nat} {ds : List (BitVec 64)} {i k : Nat} (hk : k < w) (hi : i < ds.length) : bf w ds (i * w + k) = ds[i].getLsbD k := by
  unfold bf
  have e1 : (i * w + k) / w = i := by rw [Nat.mul_comm, Nat.mul_add_div (by omega), Nat.div_eq_of_lt hk]; omega
  have e2 : (i * w + k) % w = k := by rw [Nat.mul_comm, Nat.mul_add_mod, Nat.mod_eq_of_lt hk]
  rw [e1, e2]
  congr 1
  simp [List.getD, hi]
end Go.Proofs.Ytnncjfphdcfimaa
