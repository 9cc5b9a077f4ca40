/- The walk of BitpackCodes. -/
import Derived.Test.YtjdbdjmfimbbkaaBpk
set_option linter.unusedVariables false
set_option linter.unusedSimpArgs false
set_option maxRecDepth 100000
set_option maxHeartbeats 4000000
namespace Go.Proofs.Ytjdbdjmfimbbkaa
open Go.RowKit
attribute [local irreducible] G GC At wpL DR XPost CPost Cut

theorem zig_inj {n m : Int} (h0 : -9223372036854775808 ≤ n) (h1 : n ≤ 9223372036854775807) (h2 : -9223372036854775808 ≤ m) (h3 : m ≤ 9223372036854775807) (h : zig n = zig m) : n = m := by rw [← unzig_zig h0 h1, h, unzig_zig h2 h3]
theorem zig_nat {n : Int} (h0 : -9223372036854775808 ≤ n) (h1 : n ≤ 9223372036854775807) : ((zig n).toNat : Int) = if n < 0 then -2 * n - 1 else 2 * n := by
  unfold zig
  rw [BitVec.toNat_ofInt]
  split <;> omega
theorem vint_len (u : BitVec 64) : ((vint u).length : Int) = max 1 (((blen u.toNat : Int) + 6) / 7) := by
  have key : ∀ k (u : BitVec 64), u.toNat = k → (vint u).length = max 1 ((blen u.toNat + 6) / 7) := by
    intro k
    induction k using Nat.strongRecOn with
    | _ k ih =>
      intro u hk
      by_cases hu : 127 < u.toNat
      · rw [vint_more u hu, List.length_cons, ih (u >>> 7).toNat (by rw [shr7]; omega) _ rfl, shr7]
        have := blen_shift u.toNat 7 (by omega)
        have h1 : ¬ blen (u.toNat / 128) = 0 := by rw [blen_pos (by omega)]; omega
        rw [show (2 : Nat) ^ 7 = 128 from rfl] at this
        omega
      · rw [vint_last u hu]
        have := blen_le (n := u.toNat) (k := 7) (by omega)
        simp only [List.length_cons, List.length_nil]
        omega
  rw [key _ u rfl]
  omega
theorem walk_BitpackCodes (w : World) (u : BitVec 64) (n : Int) (hn0 : -9223372036854775808 ≤ n) (hn1 : n ≤ 9223372036854775807) (m : Int) (hm0 : -9223372036854775808 ≤ m) (hm1 : m ≤ 9223372036854775807) :
    Calls Try.prog 6 #[U u, I n, I m] w (Is w (.bool true)) := by
  have z1 := zig_nat hn0 hn1
  have z2 := zig_nat hm0 hm1
  have hz := zig_unzig u
  have hu := unzig_range u
  have hn := unzig_zig hn0 hn1
  have hm := unzig_zig hm0 hm1
  have hvl := vint_len u
  have hbl := blen_64 u
  haveI : Eqn (rdB (vint u ++ [200#8, 7#8])) (.ok (u, (vint u).length)) := ⟨rd_vint u _⟩
  have z3 : ¬ 0 ≤ n ∨ ((zig (-n)).toNat : Int) = if -n < 0 then -2 * -n - 1 else 2 * -n := by
    by_cases h : 0 ≤ n
    · exact .inr (zig_nat (by omega) (by omega))
    · exact .inl h
  have z4 : ¬ 0 ≤ m ∨ ((zig (-m)).toNat : Int) = if -m < 0 then -2 * -m - 1 else 2 * -m := by
    by_cases h : 0 ≤ m
    · exact .inr (zig_nat (by omega) (by omega))
    · exact .inl h
  haveI : Fct (decide (((zig n).toNat : Int) = ((zig m).toNat : Int)) = decide (n = m)) := ⟨by
    congr 1
    apply propext
    constructor
    · intro h; exact zig_inj hn0 hn1 hm0 hm1 (BitVec.eq_of_toNat_eq (by omega))
    · intro h; rw [h]⟩
  have e2 : List.take ((1#8 :: 2#8 :: vint u).length - 2) (List.drop 2 (1#8 :: 2#8 :: vint u)) = vint u := by simp
  haveI : Eqn (rdB (List.take ((1#8 :: 2#8 :: vint u).length - 2) (List.drop 2 (1#8 :: 2#8 :: vint u)) ++ [200#8, 7#8])) (.ok (u, (vint u).length)) := ⟨by rw [e2]; exact rd_vint u _⟩
  haveI : Fct (List.drop (vint u).length (List.take ((1#8 :: 2#8 :: vint u).length - 2) (List.drop 2 (1#8 :: 2#8 :: vint u)) ++ [200#8, 7#8]) = [200#8, 7#8]) := ⟨by rw [e2]; exact List.drop_left⟩
  have hz2 : (zig (unzig u)).toNat = u.toNat := by rw [hz]
  have hl12 : (1#8 :: 2#8 :: vint u).length = (vint u).length + 2 := rfl
  have g0 : ((1#8 :: 2#8 :: vint u)[0]'(by simp)).toNat = 1 := rfl
  have g1 : ((1#8 :: 2#8 :: vint u)[1]'(by simp)).toNat = 2 := rfl
  haveI : Fct (List.drop (vint u).length (vint u ++ [200#8, 7#8]) = [200#8, 7#8]) := ⟨List.drop_left⟩
  refine enter (N := 107) (args := [U u, I n, I m]) Try.func6 rfl rfl rfl (St.refl w) ?_
  repeat' (first
  | (refine Is_G ?_; first
    | (refine Is_move ?_; refine G_move rfl rfl ?_)
    | (refine Is_assign ?_; refine G_assign rfl rfl ?_)
    | refine G_nilC ?_
    | (refine G_nil ?_; try clear ri_; try clear ops_)
    | (refine Is_bin ?_; refine G_binR rfl rfl rfl ?_)
    | (refine Is_load ?_; first
      | refine G_loadB rfl rfl rfl ?_
      | refine G_ldR rfl rfl ?_
      | refine G_loadA0 rfl rfl rfl ?_
      | refine G_loadAP rfl rfl ?_)
    | (refine Is_fieldAddr ?_; first
      | refine G_fieldOff rfl rfl ?_
      | refine G_fieldAny rfl rfl ?_)
    | (refine Is_callv ?_; first
      | refine G_callV rfl rfl rfl ?_
      | refine G_callR rfl rfl rfl fun v_ h_ => ?_)
    | (refine Is_builtin ?_; first
      | refine G_lenR rfl rfl ?_
      | (refine G_appLit rfl rfl rfl ?_; intro v_)
      | (refine G_appR rfl rfl rfl ?_; intro v_)
      | refine G_min rfl rfl rfl rfl ?_
      | refine G_max rfl rfl rfl rfl ?_)
    | (refine Is_convert ?_; refine G_convR rfl rfl ?_)
    | (refine Is_indexAddr ?_; first
      | (refine G_idxR rfl rfl rfl ?_; intro _)
      | refine G_indexA rfl rfl (by first | decide | omega) rfl ?_)
    | (refine Is_store ?_; first
      | refine G_storeW rfl rfl rfl ?_
      | refine G_storeAW rfl rfl rfl rfl ?_
      | refine G_stR rfl rfl ?_)
    | (refine Is_extract ?_; first
      | refine G_extractT rfl rfl rfl ?_
      | refine G_extract rfl rfl rfl ?_)
    | (refine Is_field ?_; first
      | refine G_fieldS rfl rfl rfl ?_
      | refine G_fieldG rfl rfl rfl ?_)
    | (refine Is_un ?_; first
      | refine G_notR rfl rfl ?_
      | refine G_negR rfl rfl ?_)
    | (refine Is_guard ?_; refine G_guardI ?_)
    | (refine Is_pick ?_; first
      | refine G_pickT rfl rfl rfl ?_
      | refine G_pickF rfl rfl rfl ?_
      | (refine G_pickD rfl (fun hc => ?_) (fun hc => ?_) <;> try (exfalso; omega)))
    | (refine Is_lit ?_; refine G_litR rfl rfl rfl rfl rfl ?_; intro v_)
    | (refine Is_slice ?_; first
      | (refine G_cutLo rfl rfl rfl ?_; intro _)
      | (refine G_cutHi rfl rfl rfl ?_; intro _)
      | (refine G_cutBoth rfl rfl rfl rfl ?_; intro _))
    | (refine Is_makeFunc ?_; refine G_makeFunc rfl rfl rfl ?_)
    | (refine Is_alloc ?_; first
      | refine G_alloc rfl fun b_ => ?_
      | refine G_allocA rfl fun b_ => ?_)
    | (refine Is_make ?_; refine G_makeR rfl rfl rfl fun v_ => ?_)
    | (refine Is_box ?_; refine G_boxR rfl rfl fun b_ => ?_)
    | (refine Is_build ?_; refine G_buildR rfl rfl ?_)
    | (refine Is_nilCheck ?_; refine G_nilCheck rfl rfl ?_))
  | (refine Is_GC ?_; first
    | refine GC_seq ?_
    | (refine GC_regionR ?_; intro ops_ ri_)
    | (refine Is_cond ?_; first
      | refine GC_condT rfl ?_
      | refine GC_condF rfl ?_
      | (refine GC_condD rfl (fun hc => ?_) (fun hc => ?_) <;> try (exfalso; omega)))
    | refine GC_skip ?_
    | refine GC_block ?_
    | refine GC_exit ?_
    | refine GC_ret ?_
    | (refine GC_drawI ?_; intro ops_ ri_))
  | (refine Is_At ?_; first
    | refine At_then ?_
    | refine At_then_exit ?_
    | refine At_then_ret ?_
    | refine At_block ?_
    | refine At_block_ret ?_
    | refine At_block_hit ?_
    | refine At_block_miss rfl ?_
    | refine At_roundS_exit ?_
    | refine At_roundS_ret ?_
    | exact X_done rfl (List.Sublist.refl _)
    | refine C_doneD rfl ?_)
  | (refine Is_GAt ?_; first
    | refine G_guardT rfl ?_
    | refine G_guardF rfl ?_
    | refine G_guardTF rfl rfl ?_
    | refine G_guardFT rfl rfl ?_
    | refine G_guardUU rfl rfl ?_
    | (refine G_guardD rfl (fun hc => ?_) (fun hc => ?_) <;> try (exfalso; omega)))
  | refine DR_nil rfl ?_
  | (refine DR_idx rfl rfl rfl rfl rfl ?_; intro _)
  | (refine DR_cutLo rfl rfl rfl rfl rfl ?_; intro _)
  | (refine DR_cutHi rfl rfl rfl rfl rfl ?_; intro _)
  | (refine DR_cutBoth rfl rfl rfl rfl rfl rfl ?_; intro _)
  | (apply DR_x rfl rfl rfl; intro mm)
  | refine DR_c rfl rfl rfl ?_)
  all_goals
    refine ret_ rfl (by repeat (first | exact ResAll.nil | (apply ResAll.cons; first | exact .tmp rfl | exact .cell rfl rfl | exact .one rfl))) fun w' h' => ?_
    exact .mk rfl h'
end Go.Proofs.Ytjdbdjmfimbbkaa
