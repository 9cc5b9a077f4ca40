/- Digests of lists that differ at one place. -/
import Derived.Test.YtdngfkmigpnbnaaPureInv
set_option linter.unusedVariables false
namespace Go.Proofs.Ytdngfkmigpnbnaa
open Go.RowKit

theorem foldB_inj {h h' : BitVec 64} : ∀ {l : List (BitVec 64)}, foldB h l = foldB h' l ↔ h = h'
  | [] => Iff.rfl
  | a :: r => by
    have := foldB_inj (h := stepB h a) (h' := stepB h' a) (l := r)
    exact this.trans step_inj_l

theorem foldB_set {h x : BitVec 64} {l : List (BitVec 64)} {i : Nat} (hi : i < l.length) : foldB h l = foldB h (l.set i x) ↔ l[i] = x := by
  have e1 : l = l.take i ++ l[i] :: l.drop (i + 1) := by rw [List.getElem_cons_drop, List.take_append_drop]
  have e2 : l.set i x = l.take i ++ x :: l.drop (i + 1) := List.set_eq_take_append_cons_drop.trans (by rw [if_pos hi])
  rw [e2]
  conv => lhs; lhs; rw [e1]
  rw [foldB_app, foldB_app]
  have : ∀ y : BitVec 64, foldB (foldB h (l.take i)) (y :: l.drop (i + 1)) = foldB (stepB (foldB h (l.take i)) y) (l.drop (i + 1)) := fun _ => rfl
  rw [this, this, foldB_inj, step_inj_r]

theorem digB_set {s x : BitVec 64} {l : List (BitVec 64)} {i : Nat} (hi : i < l.length) : digB s l = digB s (l.set i x) ↔ l[i] = x := by
  unfold digB
  rw [List.length_set, step_inj_l, foldB_set hi]

/-! ### the number of a group of bytes tells its bytes -/
theorem wd_lt (bs : List (BitVec 8)) : ∀ n, n ≤ 8 → (wd bs n).toNat < 256 ^ n
  | 0, _ => by simp [wd]
  | n + 1, h => by
    have h1 := wd_lt bs n (by omega)
    rw [wd, BitVec.toNat_or]
    have h2 : 256 ^ (n + 1) = 2 ^ (8 * (n + 1)) := by rw [show (256 : Nat) = 2 ^ 8 by rfl, ← Nat.pow_mul]
    rw [h2]
    apply Nat.or_lt_two_pow
    · refine Nat.lt_of_lt_of_le h1 ?_
      rw [show (256 : Nat) = 2 ^ 8 by rfl, ← Nat.pow_mul]
      exact Nat.pow_le_pow_right (by omega) (by omega)
    · have hb := (bs[n]?.getD 0#8).isLt
      rw [BitVec.toNat_shiftLeft, BitVec.toNat_ofNat, Nat.shiftLeft_eq]
      refine Nat.lt_of_le_of_lt (Nat.mod_le _ _) ?_
      rw [show 8 * (n + 1) = 8 + 8 * n by omega, Nat.pow_add]
      exact Nat.mul_lt_mul_of_pos_right (Nat.lt_of_le_of_lt (Nat.mod_le _ _) (by omega)) (Nat.pow_pos (by omega))

theorem wd_succ (bs : List (BitVec 8)) (n : Nat) (h : n < 8) : (wd bs (n + 1)).toNat = (wd bs n).toNat + 256 ^ n * (bs[n]?.getD 0#8).toNat := by
  have h1 := wd_lt bs n (by omega)
  have hb := (bs[n]?.getD 0#8).isLt
  rw [wd, BitVec.toNat_or, BitVec.toNat_shiftLeft, BitVec.toNat_ofNat, Nat.shiftLeft_eq]
  have hp : 256 ^ n = 2 ^ (8 * n) := by rw [show (256 : Nat) = 2 ^ 8 by rfl, ← Nat.pow_mul]
  have hlt : (bs[n]?.getD 0#8).toNat * 2 ^ (8 * n) < 2 ^ 64 := by
    have h3 : (bs[n]?.getD 0#8).toNat * 2 ^ (8 * n) < 2 ^ 8 * 2 ^ (8 * n) := Nat.mul_lt_mul_of_pos_right hb (Nat.pow_pos (by omega))
    rw [← Nat.pow_add] at h3
    exact Nat.lt_of_lt_of_le h3 (Nat.pow_le_pow_right (by omega) (by omega))
  rw [Nat.mod_eq_of_lt (show (bs[n]?.getD 0#8).toNat < 2 ^ 64 by omega), Nat.mod_eq_of_lt hlt, hp]
  rw [hp] at h1
  rw [Nat.mul_comm (bs[n]?.getD 0#8).toNat, Nat.or_comm, ← Nat.two_pow_add_eq_or_of_lt h1, Nat.add_comm]

theorem wd_low (bs : List (BitVec 8)) (n : Nat) (h : n < 8) : (wd bs (n + 1)).toNat % 256 ^ n = (wd bs n).toNat := by
  rw [wd_succ bs n h, Nat.add_mul_mod_self_left, Nat.mod_eq_of_lt (wd_lt bs n (by omega))]
theorem wd_high (bs : List (BitVec 8)) (n : Nat) (h : n < 8) : (wd bs (n + 1)).toNat / 256 ^ n = (bs[n]?.getD 0#8).toNat := by
  have hp : 0 < 256 ^ n := Nat.pow_pos (by omega)
  rw [wd_succ bs n h, Nat.add_mul_div_left _ _ hp, Nat.div_eq_of_lt (wd_lt bs n (by omega)), Nat.zero_add]

theorem wd_inj (bs cs : List (BitVec 8)) : ∀ n, n ≤ 8 → wd bs n = wd cs n → ∀ j, j < n → bs[j]?.getD 0#8 = cs[j]?.getD 0#8
  | 0, _, _, j, hj => by omega
  | n + 1, h, e, j, hj => by
    by_cases hjn : j = n
    · subst hjn
      apply BitVec.eq_of_toNat_eq
      rw [← wd_high bs j (by omega), ← wd_high cs j (by omega), e]
    · refine wd_inj bs cs n (by omega) ?_ j (by omega)
      apply BitVec.eq_of_toNat_eq
      rw [← wd_low bs n (by omega), ← wd_low cs n (by omega), e]

theorem wd_same (bs cs : List (BitVec 8)) (h : ∀ j : Nat, bs[j]?.getD 0#8 = cs[j]?.getD 0#8) : ∀ i, wd bs i = wd cs i
  | 0 => rfl
  | i + 1 => by rw [wd, wd, wd_same bs cs h i, h i]

theorem words_set (bs : List (BitVec 8)) (i : Nat) (hi : i < bs.length) (x : BitVec 8) :
    words (bs.set i x) = (words bs).set (i / 8) (wd ((bs.set i x).drop (8 * (i / 8))) (min 8 (bs.length - 8 * (i / 8)))) := by
  apply List.ext_getElem
  · simp [words_length]
  · intro g h1 h2
    rw [words_at, List.getElem_set]
    simp only [List.length_set]
    split
    · rename_i e; rw [e]
    · rename_i e
      rw [words_at]
      have hlt : min 8 (bs.length - 8 * g) ≤ 8 := Nat.min_le_left _ _
      revert hlt
      generalize min 8 (bs.length - 8 * g) = n
      intro hn
      have key : ∀ j, j < 8 → ((bs.set i x).drop (8 * g))[j]?.getD 0#8 = (bs.drop (8 * g))[j]?.getD 0#8 := fun j hj => by
        rw [List.getElem?_drop, List.getElem?_drop, List.getElem?_set_ne (by omega)]
      clear h1 h2
      induction n with
      | zero => rfl
      | succ n ih => rw [wd, wd, ih (by omega), key n (by omega)]

theorem words_one (bs : List (BitVec 8)) (i : Nat) (hi : i < bs.length) (x : BitVec 8) (h : BitVec 64) : foldB h (words bs) = foldB h (words (bs.set i x)) ↔ bs[i] = x := by
  have hg : i / 8 < (words bs).length := by rw [words_length]; omega
  rw [words_set bs i hi x, foldB_set hg, words_at]
  constructor
  · intro e
    have := wd_inj _ _ _ (Nat.min_le_left _ _) e (i % 8) (by omega)
    rw [List.getElem?_drop, List.getElem?_drop, show 8 * (i / 8) + i % 8 = i by omega, List.getElem?_set_self hi, List.getElem?_eq_getElem hi] at this
    simpa using this
  · intro e
    apply wd_same
    intro j
    rw [List.getElem?_drop, List.getElem?_drop]
    congr 1
    rw [List.getElem?_set]
    split
    · rename_i e2
      rw [← e2, List.getElem?_eq_getElem hi, e]
    · rfl

theorem dbytes_one (bs : List (BitVec 8)) (i : Nat) (hi : i < bs.length) (x : BitVec 8) (s : BitVec 64) :
    stepB (foldB s (words bs)) (BitVec.ofNat 64 bs.length) = stepB (foldB s (words (bs.set i x))) (BitVec.ofNat 64 (bs.set i x).length) ↔ bs[i] = x := by
  rw [List.length_set, step_inj_l, words_one bs i hi x]

theorem ofInt_inj {a b : Int} (ha : -9223372036854775808 ≤ a ∧ a ≤ 9223372036854775807) (hb : -9223372036854775808 ≤ b ∧ b ≤ 9223372036854775807) : BitVec.ofInt 64 a = BitVec.ofInt 64 b ↔ a = b := by
  refine ⟨fun e => ?_, fun e => by rw [e]⟩
  have := congrArg BitVec.toInt e
  rw [BitVec.toInt_ofInt, BitVec.toInt_ofInt] at this
  have h1 : a.bmod (2 ^ 64) = a := by rw [Int.bmod_eq_of_le] <;> omega
  have h2 : b.bmod (2 ^ 64) = b := by rw [Int.bmod_eq_of_le] <;> omega
  rwa [h1, h2] at this

theorem digW_set (s : BitVec 64) (l : List Int) (hl : ∀ z ∈ l, -9223372036854775808 ≤ z ∧ z ≤ 9223372036854775807) (i : Nat) (hi : i < l.length) (x : Int) (hx : -9223372036854775808 ≤ x ∧ x ≤ 9223372036854775807) :
    digB s (l.map (BitVec.ofInt 64)) = digB s ((l.set i x).map (BitVec.ofInt 64)) ↔ l[i] = x := by
  rw [List.map_set, digB_set (by simpa using hi)]
  simp only [List.getElem_map]
  exact ofInt_inj (hl _ (List.getElem_mem hi)) hx
end Go.Proofs.Ytdngfkmigpnbnaa
