/- Bitpack: Pack, Size and Unpack, in the program. -/
import Derived.Test.YtnncjfphdcfimaaBph
set_option linter.unusedVariables false
set_option linter.unusedSimpArgs false
set_option maxRecDepth 100000
set_option maxHeartbeats 4000000
namespace Go.Proofs.Ytnncjfphdcfimaa
open Go.RowKit
attribute [local irreducible] G GC At wpL DR XPost CPost Cut GA GAR GAX GAt NxA GH GHR NxH

section
variable {w0 : World} {O : List Nat} {m : List As}
end
section
variable {w0 : World} {O : List Nat} {m : List As}
end

/-! ### Unpack -/
def bitU (bs : List (BitVec 8)) (i : Nat) : BitVec 64 := if bitAt bs i then 1#64 else 0#64
theorem bitU_eq {bs : List (BitVec 8)} {i : Nat} (h : i / 8 < bs.length) : (bs[i / 8] >>> (i % 8)).setWidth 64 &&& 1#64 = bitU bs i := by
  have e : bitAt bs i = bs[i / 8].getLsbD (i % 8) := by
    unfold bitAt
    congr 1
    rw [List.getD_eq_getElem?_getD, List.getElem?_eq_getElem h]
    rfl
  unfold bitU
  rw [e]
  apply BitVec.eq_of_toNat_eq
  rw [BitVec.toNat_and, BitVec.toNat_setWidth, BitVec.toNat_ushiftRight, Nat.shiftRight_eq_div_pow, show (1#64).toNat = 1 from rfl, Nat.and_one_is_mod, BitVec.getLsbD, Nat.testBit_eq_decide_div_mod_eq]
  have hx := bs[i / 8].isLt
  have hd := Nat.div_le_self bs[i / 8].toNat (2 ^ (i % 8))
  rw [Nat.mod_eq_of_lt (b := 2 ^ 64) (by omega)]
  by_cases hh : bs[i / 8].toNat / 2 ^ (i % 8) % 2 = 1
  · simp [hh]
  · have : bs[i / 8].toNat / 2 ^ (i % 8) % 2 = 0 := by omega
    simp [this]
/-- the rest of the bytes behind what was read -/
def restV (v : Value) (bs : List (BitVec 8)) : Value := match rdB bs with
  | .error _ => .slice none 0 0
  | .ok (n, k) =>
    if n.toNat = 0 then cut (BitVec 8) v k bs.length
    else match rdB (bs.drop k) with
      | .error _ => .slice none 0 0
      | .ok (_, j) => cut (BitVec 8) (cut (BitVec 8) (cut (BitVec 8) (cut (BitVec 8) v k bs.length) j (bs.drop k).length) 1 ((bs.drop k).drop j).length) (siz n.toNat (((bs.drop k).drop j).getD 0 0#8).toNat) (((bs.drop k).drop j).drop 1).length
def unV (q rest : Value) : Except Int (List Int × Nat) → Value
  | .error e => .tuple #[.slice none 0 0, .slice none 0 0, I e]
  | .ok _ => .tuple #[q, rest, I 0]
def unL : Except Int (List Int × Nat) → List Int
  | .error _ => []
  | .ok (l, _) => l
theorem rdL_rest {α : Type} [Elt α] {w : World} {v : Value} {l : List α} (h : RdL w v l) {k : Nat} (hk : k ≤ l.length) : RdL w (cut α v k l.length) (l.drop k) := by
  have := h.cut hk (Nat.le_refl _)
  rwa [List.take_of_length_le (by simp)] at this
theorem unL_err {e : Int} : unL (.error e) = [] := rfl

theorem unp_bits (body : List (BitVec 8)) (at0 k : Nat) : BitVec.ofNat 64 (rdBits body at0 k) ||| bitU body (at0 + k) <<< k = BitVec.ofNat 64 (rdBits body at0 (k + 1)) := by
  show BitVec.ofNat 64 (bitsN (fun k => bitAt body (at0 + k)) k) ||| bitU body (at0 + k) <<< k = BitVec.ofNat 64 (bitsN (fun k => bitAt body (at0 + k)) (k + 1))
  unfold bitU
  by_cases h : bitAt body (at0 + k) = true
  · rw [if_pos h, bitsN_yes (f := fun k => bitAt body (at0 + k)) h, ofNat_or]
  · rw [if_neg h, bitsN_no (f := fun k => bitAt body (at0 + k)) (by simpa using h)]; simp
theorem set_range (f : Nat → Int) (N i : Nat) (h : i < N) : ((List.range i).map f ++ List.replicate (N - i) 0).set i (f i) = (List.range (i + 1)).map f ++ List.replicate (N - (i + 1)) 0 := by
  rw [List.set_append_right _ _ (by simp), show N - i = N - (i + 1) + 1 by omega, List.replicate_succ, show i - ((List.range i).map f).length = 0 by simp, List.set_cons_zero, List.range_succ, List.map_append, List.append_assoc]
  rfl
theorem get_range (f : Nat → Int) (N i : Nat) (h : i < ((List.range (i + 1)).map f ++ List.replicate (N - (i + 1)) 0).length) : ((List.range (i + 1)).map f ++ List.replicate (N - (i + 1)) 0)[i] = f i := by
  rw [List.getElem_append_left (by simp)]; simp
theorem u_min {a b : Nat} (ha : a < 2 ^ 64) (hb : b < 2 ^ 64) : min ((BitVec.ofNat 64 a).toNat : Int) ((BitVec.ofNat 64 b).toNat : Int) = ((BitVec.ofNat 64 (min a b)).toNat : Int) := by
  rw [BitVec.toNat_ofNat, BitVec.toNat_ofNat, BitVec.toNat_ofNat]; omega
theorem u_max {a b : Nat} (ha : a < 2 ^ 64) (hb : b < 2 ^ 64) : max ((BitVec.ofNat 64 a).toNat : Int) ((BitVec.ofNat 64 b).toNat : Int) = ((BitVec.ofNat 64 (max a b)).toNat : Int) := by
  rw [BitVec.toNat_ofNat, BitVec.toNat_ofNat, BitVec.toNat_ofNat]; omega
theorem bitU_zero {bs : List (BitVec 8)} {i : Nat} : ((bitU bs i).toNat : Int) = 0 ↔ bitAt bs i = false := by
  unfold bitU
  cases bitAt bs i <;> simp
theorem leastN_lt (f : Nat → Nat) : ∀ n, leastN f n < 2 ^ 64
  | 0 => by rw [leastN]; decide
  | n + 1 => by have := leastN_lt f n; rw [leastN]; omega
theorem mostN_lt {f : Nat → Nat} (h : ∀ i, f i < 2 ^ 64) : ∀ n, mostN f n < 2 ^ 64
  | 0 => by rw [mostN]; decide
  | n + 1 => by have := mostN_lt h n; have := h n; rw [mostN]; omega
theorem restV_ok {v : Value} {bs : List (BitVec 8)} {n : BitVec 64} {k : Nat} (h1 : rdB bs = .ok (n, k)) : restV v bs = (if n.toNat = 0 then cut (BitVec 8) v k bs.length else match rdB (bs.drop k) with
      | .error _ => .slice none 0 0
      | .ok (_, j) => cut (BitVec 8) (cut (BitVec 8) (cut (BitVec 8) (cut (BitVec 8) v k bs.length) j (bs.drop k).length) 1 ((bs.drop k).drop j).length) (siz n.toNat (((bs.drop k).drop j).getD 0 0#8).toNat) (((bs.drop k).drop j).drop 1).length) := by rw [restV, h1]
end Go.Proofs.Ytnncjfphdcfimaa
