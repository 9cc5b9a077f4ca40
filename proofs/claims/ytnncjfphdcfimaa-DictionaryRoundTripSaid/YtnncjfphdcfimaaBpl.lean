/- Bitpack for other packages: what is left behind what was read. -/
import Derived.Test.YtnncjfphdcfimaaBpk
import Derived.Test.YtnncjfphdcfimaaK3
import Derived.Test.YtnncjfphdcfimaaTyps
set_option linter.unusedVariables false
set_option linter.unusedSimpArgs false
set_option maxRecDepth 100000
set_option maxHeartbeats 4000000
namespace Go.Proofs.Ytnncjfphdcfimaa
open Go.RowKit
attribute [local irreducible] G GC At wpL DR XPost CPost Cut GA GAR GAX GAt NxA GH GHR NxH

theorem unp_canon' {bs : List (BitVec 8)} {l : List Int} {off : Nat} (h : unpB bs = .ok (l, off)) : (l.length ≤ 4096 ∧ okI l) ∧ packB l ++ bs.drop off = bs := by
  obtain ⟨n, k, h1, hh⟩ := unp_ok h
  rcases hh with ⟨h0, rfl, rfl⟩ | ⟨_, h4, hl, hi, hp, _⟩
  · refine ⟨⟨by simp, by intro x hx; simp at hx⟩, ?_⟩
    have e : packB [] = vint 0#64 := by rw [packB, if_pos List.length_nil]
    have hn : n = 0#64 := BitVec.eq_of_toNat_eq h0
    rw [e, ← hn, ← rd_take h1, List.take_append_drop]
  · exact ⟨⟨by omega, hi⟩, by rw [hp, List.take_append_drop]⟩
theorem unp_off {bs : List (BitVec 8)} {l : List Int} {off : Nat} (h : unpB bs = .ok (l, off)) : off ≤ bs.length ∧ off = (packB l).length := by
  have h1 := (unp_canon' h).2
  have h2 := unp_pack (unp_canon' h).1.2 (unp_canon' h).1.1 (bs.drop off)
  rw [h1, h] at h2
  simp only [Except.ok.injEq, Prod.mk.injEq, true_and] at h2
  have := congrArg List.length h1
  simp only [List.length_append, List.length_drop] at this
  exact ⟨by omega, h2⟩
theorem rdOld_restV {w0 : World} {O : List Nat} {v : Value} {bs : List (BitVec 8)} {l : List Int} {off : Nat} (h : RdOld w0 O v bs) (hu : unpB bs = .ok (l, off)) : RdOld w0 O (restV v bs) (bs.drop off) := by
  obtain ⟨n, k, h1, hh⟩ := unp_ok hu
  have hk := rdB_le h1
  rw [restV_ok h1]
  rcases hh with ⟨h0, _, rfl⟩ | ⟨h0, _, _, _, _, u, j, h2, hp, hs, rfl⟩
  · rw [if_pos h0]; exact h.rest hk.2
  · have hj := rdB_le h2
    rw [if_neg h0, h2]
    have e := (((h.rest hk.2).rest hj.2).rest (lo := 1) hp).rest hs
    simp only [List.drop_drop] at e ⊢
    exact e


theorem rd_canon {bs : List (BitVec 8)} {u : BitVec 64} {k : Nat} (h : rdB bs = .ok (u, k)) : vint u ++ bs.drop k = bs ∧ k = (vint u).length ∧ k ≤ bs.length := by
  have h1 := rd_take h
  have h2 := (rdB_le h).2
  refine ⟨by rw [← h1, List.take_append_drop], ?_, h2⟩
  rw [← h1, List.length_take]; omega
theorem rd_step (u : BitVec 64) (r : List (BitVec 8)) : rdB (vint u ++ r) = .ok (u, (vint u).length) := rd_vint u r
section
variable {w0 : World} {O : List Nat} {m : List As} {v : Value} {bs : List (BitVec 8)} {u : BitVec 64} {k : Nat} {l : List Int}
instance (priority := high) rdOld_read [h : RdOld w0 O v bs] [hr : Eqn (rdB bs) (.ok (u, k))] : RdOld w0 O (cut (BitVec 8) v k bs.length) (bs.drop k) := h.rest (rdB_le hr.eq).2
instance rdOld_restE [h : RdOld w0 O v bs] [hr : Eqn (unpB bs) (.ok (l, k))] : RdOld w0 O (restV v bs) (bs.drop k) := rdOld_restV h hr.eq
end
end Go.Proofs.Ytnncjfphdcfimaa
