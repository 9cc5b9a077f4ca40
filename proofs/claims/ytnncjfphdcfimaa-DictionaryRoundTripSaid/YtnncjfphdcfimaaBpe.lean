/- Bitpack: the packed form, in the reference. -/
import Derived.Test.YtnncjfphdcfimaaBpd
set_option linter.unusedVariables false
set_option linter.unusedSimpArgs false
set_option maxRecDepth 100000
set_option maxHeartbeats 4000000
namespace Go.Proofs.Ytnncjfphdcfimaa
open Go.RowKit
attribute [local irreducible] G GC At wpL DR XPost CPost Cut GA GAR GAX GAt NxA GH GHR NxH

theorem and1_8 {x : BitVec 8} {i : Nat} : ((x >>> i &&& 1#8).toNat : Int) = 1 ↔ x.getLsbD i = true := by
  have e : (x >>> i &&& 1#8).toNat = x.toNat / 2 ^ i % 2 := by
    rw [BitVec.toNat_and, BitVec.toNat_ushiftRight, Nat.shiftRight_eq_div_pow]; exact Nat.and_one_is_mod _
  rw [e, BitVec.getLsbD, Nat.testBit_eq_decide_div_mod_eq]
  simp only [decide_eq_true_eq]
  omega
theorem and1_64 {x : BitVec 64} {i : Nat} : ((x >>> i &&& 1#64).toNat : Int) = 1 ↔ x.getLsbD i = true := by
  have e : (x >>> i &&& 1#64).toNat = x.toNat / 2 ^ i % 2 := by
    rw [BitVec.toNat_and, BitVec.toNat_ushiftRight, Nat.shiftRight_eq_div_pow]; exact Nat.and_one_is_mod _
  rw [e, BitVec.getLsbD, Nat.testBit_eq_decide_div_mod_eq]
  simp only [decide_eq_true_eq]
  omega
theorem bitsN_yes {f : Nat → Bool} {n : Nat} (h : f n = true) : bitsN f (n + 1) = bitsN f n ||| 2 ^ n := by rw [bitsN, if_pos h]
theorem bitsN_no {f : Nat → Bool} {n : Nat} (h : f n = false) : bitsN f (n + 1) = bitsN f n := by rw [bitsN, if_neg (by simp [h])]
theorem ofNat_or (a k : Nat) : BitVec.ofNat 64 (a ||| 2 ^ k) = BitVec.ofNat 64 a ||| 1#64 <<< k := by
  apply BitVec.eq_of_getLsbD_eq
  intro i hi
  rw [BitVec.getLsbD_ofNat, BitVec.getLsbD_or, BitVec.getLsbD_ofNat, BitVec.getLsbD_shiftLeft, BitVec.getLsbD_one, Nat.testBit_or, Nat.testBit_two_pow]
  by_cases h1 : i < k
  · have : ¬ k = i := by omega
    simp [h1, this]
  · by_cases h2 : k = i
    · subst h2; simp [hi]
    · have : ¬ i - k = 0 := by omega
      simp [hi, h1, h2, this]

/-- the number in w bits from a place on -/
def rdBits (bs : List (BitVec 8)) (at0 k : Nat) : Nat := bitsN (fun k => (bs.getD ((at0 + k) / 8) 0#8).getLsbD ((at0 + k) % 8)) k
theorem dif_i (l : List Int) (base : Int) (i : Nat) (h : i < l.length) : BitVec.ofInt 64 l[i] - BitVec.ofInt 64 base = (l.map (dif base))[i]'(by simpa using h) := by simp [dif]
theorem set_app {pre b : List (BitVec 8)} {j : Nat} {x : BitVec 8} : (pre ++ b).set (pre.length + j) x = pre ++ b.set j x := by
  rw [List.set_append_right _ _ (by omega)]; congr 2; omega

theorem put_bit {pre : List (BitVec 8)} {n k t : Nat} (h : t / 8 < k) (h' : pre.length + t / 8 < (pre ++ leB n k).length) :
    (pre ++ leB n k).set (pre.length + t / 8) ((pre ++ leB n k)[pre.length + t / 8]'h' ||| 1#8 <<< (t % 8)) = pre ++ leB (n ||| 2 ^ t) k := by
  rw [set_app, ← leB_set h]
  congr 3
  rw [List.getElem_append_right (by omega)]
  congr 1
  omega
section
variable {w0 : World} {O : List Nat} {m : List As}
end
/-- what Pack gives -/
def pkB (l : List Int) : List (BitVec 8) := if l.length ≤ 4096 then packB l else []
def pkE (l : List Int) : Int := if l.length ≤ 4096 then 0 else 2
section
variable {w0 : World} {O : List Nat} {m : List As}
end
end Go.Proofs.Ytnncjfphdcfimaa
