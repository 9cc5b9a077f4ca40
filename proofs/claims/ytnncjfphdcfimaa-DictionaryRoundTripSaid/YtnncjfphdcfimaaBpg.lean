/- Bitpack: codes are read back; what is read from any bytes (plain). -/
import Derived.Test.YtnncjfphdcfimaaBpf
set_option linter.unusedVariables false
set_option linter.unusedSimpArgs false
set_option maxRecDepth 100000
set_option maxHeartbeats 4000000
namespace Go.Proofs.Ytnncjfphdcfimaa
open Go.RowKit
attribute [local irreducible] G GC At wpL DR XPost CPost Cut GA GAR GAX GAt NxA GH GHR NxH

theorem unzig_zig {n : Int} (h0 : -9223372036854775808 ≤ n) (h1 : n ≤ 9223372036854775807) : unzig (zig n) = n := by
  have e : (zig n).toNat = (if n < 0 then -2 * n - 1 else 2 * n).toNat := by
    unfold zig
    rw [BitVec.toNat_ofInt]
    split <;> omega
  unfold unzig
  rw [e]
  by_cases h : n < 0
  · rw [if_pos h, if_pos (by omega)]; omega
  · rw [if_neg h, if_neg (by omega)]; omega
theorem unzig_range (u : BitVec 64) : -9223372036854775808 ≤ unzig u ∧ unzig u ≤ 9223372036854775807 := by
  have := u.isLt
  unfold unzig
  split <;> omega
theorem zig_unzig (u : BitVec 64) : zig (unzig u) = u := by
  have hu := u.isLt
  apply BitVec.eq_of_toNat_eq
  unfold zig unzig
  rw [BitVec.toNat_ofInt]
  by_cases h : u.toNat % 2 = 1
  · rw [if_pos h, if_pos (by omega)]; omega
  · rw [if_neg h, if_neg (by omega)]; omega

/-! ### A code is read back -/
theorem and127 (x : BitVec 8) : ((x &&& 127#8).setWidth 64).toNat = x.toNat % 128 := by
  rw [BitVec.toNat_setWidth, BitVec.toNat_and, show (127#8).toNat = 2 ^ 7 - 1 from rfl, Nat.and_two_pow_sub_one_eq_mod]
  omega
theorem or128 (x : BitVec 8) : (x ||| 128#8).toNat = x.toNat % 128 + 128 := by
  have key : ∀ n : Nat, n < 256 → n ||| 128 = n % 128 + 128 := by decide
  rw [BitVec.toNat_or]
  exact key _ x.isLt
theorem low8 (u : BitVec 64) : (u.setWidth 8).toNat = u.toNat % 256 := by rw [BitVec.toNat_setWidth]
theorem more_toNat (u : BitVec 64) : (u.setWidth 8 ||| 128#8).toNat = u.toNat % 128 + 128 := by rw [or128, low8]; omega
theorem join7 (x : BitVec 8) (u' : BitVec 64) (h : u'.toNat < 2 ^ 57) : ((x &&& 127#8).setWidth 64 ||| u' <<< 7).toNat = x.toNat % 128 + 128 * u'.toNat := by
  have e : ((x &&& 127#8).setWidth 64) + u' <<< 7 = (x &&& 127#8).setWidth 64 ||| u' <<< 7 := or_add (u := (x &&& 127#8).setWidth 64) (k := 1) (by rw [and127]; omega)
  rw [← e, BitVec.toNat_add, and127, BitVec.toNat_shiftLeft, Nat.shiftLeft_eq]
  omega
theorem or_shift (a b c : BitVec 64) (k : Nat) : a ||| b <<< k ||| c <<< (k + 7) = a ||| (b ||| c <<< 7) <<< k := by
  rw [BitVec.or_assoc, BitVec.shiftLeft_or_distrib, Nat.add_comm k 7, BitVec.shiftLeft_add]
theorem split7 (u : BitVec 64) : (((u.setWidth 8 ||| 128#8) &&& 127#8).setWidth 64 ||| (u >>> 7) <<< 7) = u := by
  apply BitVec.eq_of_toNat_eq
  have := u.isLt
  rw [join7 _ _ (by rw [shr7]; omega), more_toNat, shr7]
  omega

theorem rdGo_vint : ∀ (n : Nat) (u a : BitVec 64) (i : Nat) (r : List (BitVec 8)), u.toNat = n → i ≤ 9 → u.toNat < 2 ^ (64 - 7 * i) → (0 < i → ¬ u.toNat = 0) → rdGo i a (vint u ++ r) = .ok (a ||| u <<< (7 * i), i + (vint u).length) := by
  intro n
  induction n using Nat.strongRecOn with
  | _ n ih =>
    intro u a i r hn hi hr hz
    have hp : 2 ^ (64 - 7 * i) = 2 ^ (64 - 7 * i) := rfl
    by_cases hu : 127 < u.toNat
    · have hi8 : i ≤ 8 := by
        rcases Nat.lt_or_ge i 9 with h | h
        · omega
        · obtain rfl : i = 9 := by omega
          simp at hr; omega
      rw [vint_more u hu, List.cons_append, rdGo, if_neg (by omega), if_neg (by rw [more_toNat]; omega)]
      have e7 : 2 ^ (64 - 7 * i) = 2 ^ (64 - 7 * (i + 1)) * 128 := by
        rw [show 64 - 7 * i = (64 - 7 * (i + 1)) + 7 by omega, Nat.pow_add]
      rw [ih (u >>> 7).toNat (by rw [shr7]; omega) (u >>> 7) _ (i + 1) r rfl (by omega) (by rw [shr7]; omega) (by rw [shr7]; omega), Nat.mul_add, Nat.mul_one, or_shift, split7]
      simp only [List.length_cons, Except.ok.injEq, Prod.mk.injEq, true_and]
      omega
    · have hx : (u.setWidth 8).toNat = u.toNat := by rw [low8]; omega
      rw [vint_last u hu, List.cons_append, rdGo, if_neg (by
        rintro ⟨rfl, h⟩
        simp at hr; omega), if_pos (by omega), if_neg (by omega)]
      have e : ((u.setWidth 8) &&& 127#8).setWidth 64 = u := by
        apply BitVec.eq_of_toNat_eq
        rw [and127]; omega
      rw [e]; simp
theorem rd_vint (u : BitVec 64) (r : List (BitVec 8)) : rdB (vint u ++ r) = .ok (u, (vint u).length) := by
  have := rdGo_vint u.toNat u 0#64 0 r rfl (by omega) u.isLt (by omega)
  unfold rdB; rw [this]; simp
theorem rdGo_short : ∀ (n : Nat) (u a : BitVec 64) (i m : Nat), u.toNat = n → i ≤ 9 → u.toNat < 2 ^ (64 - 7 * i) → m < (vint u).length → rdGo i a ((vint u).take m) = .error 7 := by
  intro n
  induction n using Nat.strongRecOn with
  | _ n ih =>
    intro u a i m hn hi hr hm
    cases m with
    | zero => simp [rdGo]
    | succ m =>
      by_cases hu : 127 < u.toNat
      · have hi8 : i ≤ 8 := by
          rcases Nat.lt_or_ge i 9 with h | h
          · omega
          · obtain rfl : i = 9 := by omega
            simp at hr; omega
        rw [vint_more u hu] at hm ⊢
        rw [List.take_succ_cons, rdGo, if_neg (by omega), if_neg (by rw [more_toNat]; omega)]
        have e7 : 2 ^ (64 - 7 * i) = 2 ^ (64 - 7 * (i + 1)) * 128 := by
          rw [show 64 - 7 * i = (64 - 7 * (i + 1)) + 7 by omega, Nat.pow_add]
        exact ih (u >>> 7).toNat (by rw [shr7]; omega) (u >>> 7) _ (i + 1) m rfl (by omega) (by rw [shr7]; omega) (by simpa using hm)
      · rw [vint_last u hu] at hm
        simp at hm
theorem rd_short (u : BitVec 64) (m : Nat) (h : m < (vint u).length) : rdB ((vint u).take m) = .error 7 := rdGo_short u.toNat u 0#64 0 m rfl (by omega) u.isLt h
theorem rdGo_take : ∀ (bs : List (BitVec 8)) (i : Nat) (a v : BitVec 64) (k : Nat), rdGo i a bs = .ok (v, k) → i ≤ 9 → ∃ u : BitVec 64, bs.take (k - i) = vint u ∧ v = a ||| u <<< (7 * i) ∧ u.toNat < 2 ^ (64 - 7 * i) ∧ (0 < i → ¬ u.toNat = 0)
  | [], i, a, v, k, h, _ => by simp [rdGo] at h
  | x :: r, i, a, v, k, h, hi => by
    have hle := rdGo_le _ _ _ _ _ h
    rw [rdGo] at h
    have hx := x.isLt
    split at h
    · cases h
    · rename_i h1
      split at h
      · rename_i h2
        split at h
        · cases h
        · rename_i h3
          simp only [Except.ok.injEq, Prod.mk.injEq] at h
          obtain ⟨hv, rfl⟩ := h
          have e : ((x &&& 127#8).setWidth 64).toNat = x.toNat := by rw [and127]; omega
          refine ⟨(x &&& 127#8).setWidth 64, ?_, hv.symm, ?_, ?_⟩
          · rw [show i + 1 - i = 1 by omega, vint_last _ (by omega)]
            simp only [List.take_succ_cons, List.take_zero, List.cons.injEq, and_true]
            apply BitVec.eq_of_toNat_eq
            rw [low8]; omega
          · rw [e]
            by_cases h9 : i = 9
            · subst h9; simp; omega
            · have := Nat.pow_le_pow_right (show 0 < 2 by omega) (show 7 ≤ 64 - 7 * i by omega)
              omega
          · omega
      · rename_i h2
        by_cases h9 : i = 9
        · omega
        · obtain ⟨u', e1, e2, e3, e4⟩ := rdGo_take r (i + 1) _ v k h (by omega)
          have hle2 := rdGo_le _ _ _ _ _ h
          have e7 : 2 ^ (64 - 7 * i) = 2 ^ (64 - 7 * (i + 1)) * 128 := by
            rw [show 64 - 7 * i = (64 - 7 * (i + 1)) + 7 by omega, Nat.pow_add]
          have h57 : u'.toNat < 2 ^ 57 := Nat.lt_of_lt_of_le e3 (Nat.pow_le_pow_right (by omega) (by omega))
          have ej := join7 x u' h57
          refine ⟨(x &&& 127#8).setWidth 64 ||| u' <<< 7, ?_, ?_, ?_, ?_⟩
          · rw [vint_more _ (by omega), show k - i = (k - (i + 1)) + 1 by omega, List.take_succ_cons, e1]
            congr 1
            · apply BitVec.eq_of_toNat_eq
              rw [more_toNat]; omega
            · congr 1
              apply BitVec.eq_of_toNat_eq
              rw [shr7]; omega
          · rw [e2, Nat.mul_add, Nat.mul_one, or_shift]
          · omega
          · omega
theorem rd_take {bs : List (BitVec 8)} {u : BitVec 64} {k : Nat} (h : rdB bs = .ok (u, k)) : bs.take k = vint u := by
  obtain ⟨u', e1, e2, _, _⟩ := rdGo_take bs 0 0#64 u k h (by omega)
  rw [Nat.sub_zero] at e1
  rw [e1, e2]; simp
theorem rdGo_err : ∀ (bs : List (BitVec 8)) (i : Nat) (a : BitVec 64) (e : Int), rdGo i a bs = .error e → e = 5 ∨ e = 7
  | [], i, a, e, h => by simp [rdGo] at h; omega
  | x :: r, i, a, e, h => by
    rw [rdGo] at h
    split at h
    · cases h; simp
    · split at h
      · split at h
        · cases h; simp
        · cases h
      · exact rdGo_err r _ _ e h
theorem rd_err {bs : List (BitVec 8)} {e : Int} (h : rdB bs = .error e) : e = 5 ∨ e = 7 := rdGo_err bs 0 _ e h

/-! ### What Unpack reads -/
def bitAt (bs : List (BitVec 8)) (i : Nat) : Bool := (bs.getD (i / 8) 0#8).getLsbD (i % 8)
def dAt (body : List (BitVec 8)) (W i : Nat) : Nat := rdBits body (i * W) W
def vAt (body : List (BitVec 8)) (low : Int) (W i : Nat) : Int := (BitVec.ofInt 64 low + BitVec.ofNat 64 (dAt body W i)).toInt
def lsA (body : List (BitVec 8)) (low : Int) (W n : Nat) : List Int := (List.range n).map (vAt body low W)
def unp2 (bs : List (BitVec 8)) (low : Int) (n W off : Nat) (body : List (BitVec 8)) : Except Int (List Int × Nat) :=
  if (∀ i, i < n → low ≤ vAt body low W i) ∧ packB (lsA body low W n) = bs.take (off + siz n W) then .ok (lsA body low W n, off + siz n W) else .error 5
def unp1 (bs : List (BitVec 8)) (n : Nat) (u : BitVec 64) (off : Nat) (c : List (BitVec 8)) : Except Int (List Int × Nat) :=
  if c.length = 0 then .error 7
  else if 64 < (c.getD 0 0#8).toNat then .error 5
  else if (c.drop 1).length < siz n (c.getD 0 0#8).toNat then .error 7
  else unp2 bs (unzig u) n (c.getD 0 0#8).toNat (off + 1) (c.drop 1)
def unpB (bs : List (BitVec 8)) : Except Int (List Int × Nat) :=
  match rdB bs with
  | .error e => .error e
  | .ok (n, k) =>
    if 4096 < n.toNat then .error 5
    else if n.toNat = 0 then .ok ([], k)
    else match rdB (bs.drop k) with
      | .error e => .error e
      | .ok (u, j) => unp1 bs n.toNat u (k + j) ((bs.drop k).drop j)
def leastN (f : Nat → Nat) : Nat → Nat
  | 0 => 18446744073709551615
  | n + 1 => min (leastN f n) (f n)
def mostN (f : Nat → Nat) : Nat → Nat
  | 0 => 0
  | n + 1 => max (mostN f n) (f n)
theorem leastN_le (f : Nat → Nat) : ∀ n i, i < n → leastN f n ≤ f i
  | n + 1, i, h => by
    rw [leastN]
    by_cases e : i = n
    · subst e; exact Nat.min_le_right _ _
    · exact Nat.le_trans (Nat.min_le_left _ _) (leastN_le f n i (by omega))
theorem leastN_mem (f : Nat → Nat) : ∀ n, leastN f n = 18446744073709551615 ∨ ∃ i, i < n ∧ leastN f n = f i
  | 0 => .inl rfl
  | n + 1 => by
    rw [leastN]
    rcases Nat.le_total (leastN f n) (f n) with h | h
    · rw [Nat.min_eq_left h]
      rcases leastN_mem f n with e | ⟨i, h1, h2⟩
      · exact .inl e
      · exact .inr ⟨i, by omega, h2⟩
    · rw [Nat.min_eq_right h]; exact .inr ⟨n, by omega, rfl⟩
theorem le_mostN (f : Nat → Nat) : ∀ n i, i < n → f i ≤ mostN f n
  | n + 1, i, h => by
    rw [mostN]
    by_cases e : i = n
    · subst e; exact Nat.le_max_right _ _
    · exact Nat.le_trans (le_mostN f n i (by omega)) (Nat.le_max_left _ _)
theorem mostN_mem (f : Nat → Nat) : ∀ n, 0 < n → ∃ i, i < n ∧ mostN f n = f i
  | 1, _ => ⟨0, by omega, by simp [mostN]⟩
  | n + 2, _ => by
    rw [mostN]
    obtain ⟨i, h1, h2⟩ := mostN_mem f (n + 1) (by omega)
    rcases Nat.le_total (mostN f (n + 1)) (f (n + 1)) with h | h
    · rw [Nat.max_eq_right h]; exact ⟨n + 1, by omega, rfl⟩
    · rw [Nat.max_eq_left h]; exact ⟨i, by omega, h2⟩
end Go.Proofs.Ytnncjfphdcfimaa
