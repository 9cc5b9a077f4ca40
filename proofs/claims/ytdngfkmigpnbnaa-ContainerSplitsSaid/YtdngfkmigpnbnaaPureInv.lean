/- Undoing a step gives its word and its digest back. -/
import Derived.Test.YtdngfkmigpnbnaaDigC
set_option linter.unusedVariables false
namespace Go.Proofs.Ytdngfkmigpnbnaa
open Go.RowKit

def c1 : BitVec 64 := 0xd6e8feb86659fd93#64
def c2 : BitVec 64 := 0xa0761d6478bd642f#64

theorem inv_c1 : c1 * invB c1 6 = 1#64 := by decide +kernel
theorem inv_c2 : c2 * invB c2 6 = 1#64 := by decide +kernel

theorem mul_undo {c i : BitVec 64} (h : c * i = 1#64) (x : BitVec 64) : x * c * i = x := by
  rw [BitVec.mul_assoc, h, BitVec.mul_one]

theorem xor_undo (a : BitVec 64) : (a ^^^ a >>> 32) ^^^ (a ^^^ a >>> 32) >>> 32 = a := by
  have h : (a >>> 32) >>> 32 = 0#64 := by
    apply BitVec.eq_of_toNat_eq
    have := a.isLt
    simp only [BitVec.toNat_ushiftRight, Nat.shiftRight_eq_div_pow, Nat.div_div_eq_div_mul]
    simp
    omega
  rw [BitVec.ushiftRight_xor_distrib, h, BitVec.xor_zero, BitVec.xor_assoc, BitVec.xor_self, BitVec.xor_zero]

/-- the step undone -/
def unstep (r : BitVec 64) : BitVec 64 :=
  (r * invB c2 6 ^^^ (r * invB c2 6) >>> 32) * invB c1 6

theorem unstep_step (h w : BitVec 64) : unstep (stepB h w) = h ^^^ w := by
  have e : stepB h w = (((h ^^^ w) * c1) ^^^ ((h ^^^ w) * c1) >>> 32) * c2 := rfl
  unfold unstep
  rw [e, mul_undo inv_c2, xor_undo, mul_undo inv_c1]

theorem xor_undo_r (h w : BitVec 64) : (h ^^^ w) ^^^ w = h := by rw [BitVec.xor_assoc, BitVec.xor_self, BitVec.xor_zero]
theorem xor_undo_l (h w : BitVec 64) : (h ^^^ w) ^^^ h = w := by rw [BitVec.xor_comm h w, xor_undo_r]
theorem step_comm (h w : BitVec 64) : stepB h w = stepB w h := by unfold stepB; rw [BitVec.xor_comm h w]
theorem step_inj_l {h h' w : BitVec 64} : stepB h w = stepB h' w ↔ h = h' := by
  refine ⟨fun e => ?_, fun e => by rw [e]⟩
  have := congrArg unstep e
  rw [unstep_step, unstep_step] at this
  rw [← xor_undo_r h w, this, xor_undo_r]
theorem step_inj_r {h w w' : BitVec 64} : stepB h w = stepB h w' ↔ w = w' := by
  rw [step_comm h w, step_comm h w', step_inj_l]
end Go.Proofs.Ytdngfkmigpnbnaa
