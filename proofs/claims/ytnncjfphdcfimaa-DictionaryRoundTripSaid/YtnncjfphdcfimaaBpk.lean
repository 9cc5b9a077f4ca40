/- Bitpack: the laws' examples. -/
import Derived.Test.YtnncjfphdcfimaaBpj
set_option linter.unusedVariables false
set_option linter.unusedSimpArgs false
set_option maxRecDepth 100000
set_option maxHeartbeats 4000000
namespace Go.Proofs.Ytnncjfphdcfimaa
open Go.RowKit
attribute [local irreducible] G GC At wpL DR XPost CPost Cut GA GAR GAX GAt NxA GH GHR NxH

theorem lit_u64 {n : Nat} (h : n < 2 ^ 64) : U (BitVec.ofNat 64 (OfNat.ofNat n)) = .int .u64 (OfNat.ofNat n) := by
  show Value.int .u64 ((BitVec.ofNat 64 n).toNat : Int) = .int .u64 ((n : Nat) : Int)
  rw [BitVec.toNat_ofNat, Nat.mod_eq_of_lt h]
/-- a Got: its number, list, rest and error -/
class GotR (w0 : World) (O : List Nat) (m : List As) (x : Value) (side : outParam Prop) (u : outParam (BitVec 64)) (l : outParam (List Int)) (b : outParam (List (BitVec 8))) (e : outParam Int) : Prop where
  got : side → ∃ a r, x = .agg #[U u, a, r, I e] ∧ ∀ w, St w0 O m w → RdL w a l ∧ RdL w r b
section
variable {w0 : World} {O : List Nat} {m : List As}
instance gotU {u : BitVec 64} {a r : Value} {e : Int} {l : List Int} {b : List (BitVec 8)} [h1 : RdR w0 O m a l] [h2 : RdR w0 O m r b] : GotR w0 O m (.agg #[.int .u64 (u.toNat : Int), a, r, .int .i64 e]) True u l b e :=
  ⟨fun _ => ⟨a, r, rfl, fun w hw => ⟨h1.rd w hw, h2.rd w hw⟩⟩⟩
instance gotL {n : Nat} {a r : Value} {e : Int} {l : List Int} {b : List (BitVec 8)} [h1 : RdR w0 O m a l] [h2 : RdR w0 O m r b] : GotR w0 O m (.agg #[.int .u64 (no_index (OfNat.ofNat n)), a, r, .int .i64 e]) (n < 2 ^ 64) (BitVec.ofNat 64 (OfNat.ofNat n)) l b e :=
  ⟨fun hn => ⟨a, r, by rw [lit_u64 hn], fun w hw => ⟨h1.rd w hw, h2.rd w hw⟩⟩⟩
section
variable {v : Value} {bs : List (BitVec 8)} {u : BitVec 64} {k : Nat} {e : Int} {l : List Int} [h : RdR w0 O m v bs]
instance (priority := high) [hr : Eqn (rdB bs) (.ok (u, k))] : CallV Try.prog w0 O m 38 [v] True (.agg #[U u, .slice none 0 0, cut (BitVec 8) v k bs.length, I 0]) :=
  ⟨fun _ w hw => @ref_ReadIn w v bs (RdOld.of (h.rd w hw)) _ hr.eq⟩
instance (priority := high) [hr : Eqn (rdB bs) (.error e)] : CallV Try.prog w0 O m 38 [v] True (.agg #[U 0#64, .slice none 0 0, .slice none 0 0, I e]) :=
  ⟨fun _ w hw => @ref_ReadIn w v bs (RdOld.of (h.rd w hw)) _ hr.eq⟩
end
instance {v : Value} {bs q : List (BitVec 8)} (n : Nat) [h : RdR w0 O m v bs] [hq : AppN bs (vint (BitVec.ofNat 64 (OfNat.ofNat n))) q] : CallR Try.prog w0 O m 41 [v, .int .u64 (no_index (OfNat.ofNat n))] (bs.length ≤ 1000000000000 ∧ n < 2 ^ 64) (fun _ : Value => True) (fun r => r) (fun r => row r 5 q :: m) :=
  .new1 (M := fun r => row r _ q) fun hs w hw => by
    have := @bp_Varint w v bs (BitVec.ofNat 64 (OfNat.ofNat n)) (RdOld.of (h.rd w hw)) hs.1
    rw [lit_u64 hs.2, hq.eq] at this
    exact this
end
theorem unp_ok {bs : List (BitVec 8)} {l : List Int} {off : Nat} (h : unpB bs = .ok (l, off)) : ∃ n k, rdB bs = .ok (n, k) ∧ (n.toNat = 0 ∧ l = [] ∧ off = k ∨ ¬ n.toNat = 0 ∧ n.toNat ≤ 4096 ∧ l.length = n.toNat ∧ okI l ∧ packB l = bs.take off ∧ ∃ u j, rdB (bs.drop k) = .ok (u, j) ∧
    0 < ((bs.drop k).drop j).length ∧ siz n.toNat (((bs.drop k).drop j).getD 0 0#8).toNat ≤ (((bs.drop k).drop j).drop 1).length ∧ off = k + j + 1 + siz n.toNat (((bs.drop k).drop j).getD 0 0#8).toNat) := by
  rw [unpB] at h
  rcases h1 : rdB bs with e | ⟨n, k⟩
  · rw [h1] at h; cases h
  · refine ⟨n, k, rfl, ?_⟩
    rw [h1] at h
    simp only at h
    split at h
    · cases h
    · split at h
      · left
        cases h
        exact ⟨by assumption, rfl, rfl⟩
      · right
        rename_i hn4 hn
        rcases h2 : rdB (bs.drop k) with e | ⟨u, j⟩
        · rw [h2] at h; cases h
        · rw [h2] at h
          simp only [unp1, unp2] at h
          split at h
          · cases h
          · split at h
            · cases h
            · split at h
              · cases h
              · split at h
                · rename_i hg
                  cases h
                  exact ⟨hn, by omega, lsA_length _ _ _ _, lsA_ok _ _ _ _, hg.2, u, j, rfl, by omega, by omega, rfl⟩
                · cases h
theorem rest_rd {w : World} {v : Value} {bs : List (BitVec 8)} {l : List Int} {off : Nat} (h : RdL w v bs) (hu : unpB bs = .ok (l, off)) : RdL w (restV v bs) (bs.drop off) := by
  obtain ⟨n, k, h1, hh⟩ := unp_ok hu
  have hk := rdB_le h1
  rw [restV_ok h1]
  rcases hh with ⟨h0, _, rfl⟩ | ⟨h0, _, _, _, _, u, j, h2, hp, hs, rfl⟩
  · rw [if_pos h0]; exact rdL_rest h hk.2
  · have hj := rdB_le h2
    rw [if_neg h0, h2]
    have e := rdL_rest (rdL_rest (rdL_rest (rdL_rest h hk.2) hj.2) (k := 1) hp) hs
    simp only [List.drop_drop] at e ⊢
    exact e
instance rdR_rest {w0 : World} {O : List Nat} {m : List As} {v : Value} {bs : List (BitVec 8)} {l : List Int} {off : Nat} [h : RdR w0 O m v bs] [hu : Eqn (unpB bs) (.ok (l, off))] : RdR w0 O m (restV v bs) (bs.drop off) :=
  ⟨fun w hw => rest_rd (h.rd w hw) hu.eq⟩

instance (priority := high) rdR_read {w0 : World} {O : List Nat} {m : List As} {v : Value} {bs : List (BitVec 8)} {u : BitVec 64} {k : Nat} [h : RdR w0 O m v bs] [hr : Eqn (rdB bs) (.ok (u, k))] : RdR w0 O m (cut (BitVec 8) v k bs.length) (bs.drop k) :=
  ⟨fun w hw => rdL_rest (h.rd w hw) (rdB_le hr.eq).2⟩
theorem blen_at {n t : Nat} (h0 : 0 < t) (h1 : 2 ^ (t - 1) ≤ n) (h2 : n < 2 ^ t) : blen n = t := blen_eq h0 h1 h2
theorem vint_small {u : BitVec 64} (h : u.toNat ≤ 127) : vint u = [u.setWidth 8] := vint_last u (by omega)
theorem pack_536 : packB [5, 3, 6] = [3#8, 6#8, 2#8, 50#8] := by
  have hw : wid [5, 3, 6] = 2 := blen_at (by decide) (by decide) (by decide)
  have e1 : vint (BitVec.ofNat 64 ([5, 3, 6] : List Int).length) = [3#8] := vint_small (by decide)
  have e2 : vint (zig (lmin [5, 3, 6])) = [6#8] := vint_small (by decide)
  rw [packB_pos (by decide), hw, e1, e2]
  rfl
theorem pack_77 : packB [7, 7] = [2#8, 14#8, 0#8] := by
  have hw : wid [7, 7] = 0 := blen_zero
  have e1 : vint (BitVec.ofNat 64 ([7, 7] : List Int).length) = [2#8] := vint_small (by decide)
  have e2 : vint (zig (lmin [7, 7])) = [14#8] := vint_small (by decide)
  rw [packB_pos (by decide), hw, e1, e2]
  rfl
theorem vint_300 : vint 300#64 = [172#8, 2#8] := by
  rw [vint_more _ (by decide), vint_small (by decide)]
  rfl
theorem okI_small {l : List Int} (h : l.all (fun x => decide (-100 ≤ x) && decide (x ≤ 100)) = true) : okI l := by
  intro x hx
  have := List.all_eq_true.1 h x hx
  simp only [Bool.and_eq_true, decide_eq_true_eq] at this
  omega
theorem packB_le {l : List Int} (h : l.length ≤ 4096) : (packB l).length ≤ 32789 ∧ 0 < (packB l).length := by
  by_cases h0 : l.length = 0
  · obtain rfl := List.eq_nil_of_length_eq_zero h0
    rw [packB_nil]; simp
  · have h1 := vint_10 (BitVec.ofNat 64 l.length)
    have h2 := vint_10 (zig (lmin l))
    have h3 := wid_le l
    have h4 : l.length * wid l ≤ 262144 := Nat.mul_le_mul h h3
    rw [packB_pos (by omega)]
    simp only [List.length_append, List.length_cons, leB_length]
    unfold siz
    omega
theorem pk_small {l : List Int} (h : l.length ≤ 4096) : pkB l = packB l := by rw [pkB, if_pos h]
theorem pe_small {l : List Int} (h : l.length ≤ 4096) : pkE l = 0 := by rw [pkE, if_pos h]
theorem old_int {w : World} {v : Value} {l : List Int} (h : Rd w v 1 (l.map I)) : RdOld w [] v l := RdOld.of (by unfold RdL; rw [encs_int]; exact h)
theorem old_byte {w : World} {v : Value} {l : List (BitVec 8)} (h : Rd w v 1 (l.map B8)) : RdOld w [] v l := RdOld.of (by unfold RdL; rw [encs_byte]; exact h)
end Go.Proofs.Ytnncjfphdcfimaa
