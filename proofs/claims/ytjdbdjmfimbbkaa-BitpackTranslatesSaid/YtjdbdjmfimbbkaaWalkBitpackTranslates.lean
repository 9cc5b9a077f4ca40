/- The walk of BitpackTranslates. -/
import Derived.Test.YtjdbdjmfimbbkaaBpk
set_option linter.unusedVariables false
set_option linter.unusedSimpArgs false
set_option maxRecDepth 100000
set_option maxHeartbeats 4000000
namespace Go.Proofs.Ytjdbdjmfimbbkaa
open Go.RowKit
attribute [local irreducible] G GC At wpL DR XPost CPost Cut

/-- behind the base: the width and the body -/
theorem pack_tail {l : List Int} (h : 0 < l.length) (k : Nat) (hk : k = (vint (BitVec.ofNat 64 l.length)).length + (vint (zig (lmin l))).length) : (packB l).drop k = BitVec.ofNat 8 (wid l) :: leB (bitsN (bf (wid l) (l.map (dif (lmin l)))) (l.length * wid l)) (siz l.length (wid l)) := by
  rw [packB_pos h, ← List.append_assoc, List.drop_left' (by rw [List.length_append, hk])]
theorem lmin_add (by_ : Int) {l : List Int} (h : 0 < l.length) : lmin (l.map (· + by_)) = lmin l + by_ := by
  have h1 := lmin_mem (l := l.map (· + by_)) (by simpa using h)
  have h2 := lmin_mem h
  obtain ⟨x, hx, e⟩ := List.mem_map.1 h1
  have h3 := lmin_le x hx
  have h4 := lmin_le (l := l.map (· + by_)) (lmin l + by_) (List.mem_map.2 ⟨_, h2, rfl⟩)
  have e' : x + by_ = _ := e
  omega
theorem lmax_add (by_ : Int) {l : List Int} (h : 0 < l.length) : lmax (l.map (· + by_)) = lmax l + by_ := by
  have h1 := lmax_mem (l := l.map (· + by_)) (by simpa using h)
  have h2 := lmax_mem h
  obtain ⟨x, hx, e⟩ := List.mem_map.1 h1
  have h3 := le_lmax x hx
  have h4 := le_lmax (l := l.map (· + by_)) (lmax l + by_) (List.mem_map.2 ⟨_, h2, rfl⟩)
  have e' : x + by_ = _ := e
  omega
theorem dif_add (b x by_ : Int) : dif (b + by_) (x + by_) = dif b x := by
  unfold dif
  rw [BitVec.ofInt_add, BitVec.ofInt_add]
  generalize BitVec.ofInt 64 x = X
  generalize BitVec.ofInt 64 b = B
  generalize BitVec.ofInt 64 by_ = Y
  rw [BitVec.sub_eq_add_neg, BitVec.sub_eq_add_neg, BitVec.neg_add]
  rw [show X + Y + (-B - Y) = X + -B from by
    rw [BitVec.sub_eq_add_neg, BitVec.add_assoc, BitVec.add_comm (-B), ← BitVec.add_assoc Y, BitVec.add_right_neg, BitVec.zero_add]]
theorem tail_same {l : List Int} (by_ : Int) (h : 0 < l.length) (k k' : Nat) (hk : k = (vint (BitVec.ofNat 64 l.length)).length + (vint (zig (lmin l))).length) (hk' : k' = (vint (BitVec.ofNat 64 l.length)).length + (vint (zig (lmin l + by_))).length) :
    (packB l).drop k = (packB (l.map (· + by_))).drop k' := by
  have e1 := lmin_add by_ h
  have e2 : wid (l.map (· + by_)) = wid l := by unfold wid; rw [e1, lmax_add by_ h, dif_add]
  have e3 : (l.map (· + by_)).map (dif (lmin l + by_)) = l.map (dif (lmin l)) := by
    rw [List.map_map]
    exact List.map_congr_left fun x _ => dif_add _ _ _
  rw [pack_tail h k hk, pack_tail (l := l.map (· + by_)) (by simpa using h) k' (by rw [e1, List.length_map]; exact hk'), e1, e2, e3, List.length_map]
theorem tail_room {l : List Int} (h : 0 < l.length) : (vint (BitVec.ofNat 64 l.length)).length + (vint (zig (lmin l))).length ≤ (packB l).length := by
  rw [packB_pos h]; simp only [List.length_append, List.length_cons]; omega
theorem wrap_out {x : Int} (h0 : -18446744073709551616 ≤ x) (h1 : x < 18446744073709551616) : (9223372036854775807 < x → IntKind.i64.wrap x = x - 18446744073709551616) ∧ (x < -9223372036854775808 → IntKind.i64.wrap x = x + 18446744073709551616) := by
  rw [IntKind.wrap_i64]; omega
theorem walk_BitpackTranslates (w : World) (v0 : Value) (l : List Int) (h0 : Rd w v0 1 (l.map I)) (bl : ∀ z ∈ l, -9223372036854775808 ≤ z ∧ z ≤ 9223372036854775807) (by_ : Int) (hb0 : -9223372036854775808 ≤ by_) (hb1 : by_ ≤ 9223372036854775807) :
    Calls Try.prog 8 #[v0, I by_] w (Is w (.bool true)) := by
  have i0 := old_int h0
  have hi : okI l := bl
  by_cases hs : l.length ≤ 300 ∧ 0 < l.length
  · haveI : Eqn (pkB l) (packB l) := ⟨pk_small (by omega)⟩
    haveI : Eqn (pkE l) 0 := ⟨pe_small (by omega)⟩
    refine enter (N := 122) (args := [v0, I by_]) Try.func8 rfl rfl rfl (St.refl w) ?_
    repeat' (first
  | (refine Is_G ?_; first
    | (refine Is_move ?_; refine G_move rfl rfl ?_)
    | (refine Is_assign ?_; refine G_assign rfl rfl ?_)
    | refine G_nilC ?_
    | (refine G_nil ?_; try clear ri_; try clear ops_)
    | (refine Is_bin ?_; refine G_binR rfl rfl rfl ?_)
    | (refine Is_load ?_; first
      | refine G_loadB rfl rfl rfl ?_
      | refine G_ldR rfl rfl ?_
      | refine G_loadA0 rfl rfl rfl ?_
      | refine G_loadAP rfl rfl ?_)
    | (refine Is_fieldAddr ?_; first
      | refine G_fieldOff rfl rfl ?_
      | refine G_fieldAny rfl rfl ?_)
    | (refine Is_callv ?_; first
      | refine G_callV rfl rfl rfl ?_
      | refine G_callR rfl rfl rfl fun v_ h_ => ?_)
    | (refine Is_builtin ?_; first
      | refine G_lenR rfl rfl ?_
      | (refine G_appLit rfl rfl rfl ?_; intro v_)
      | (refine G_appR rfl rfl rfl ?_; intro v_)
      | refine G_min rfl rfl rfl rfl ?_
      | refine G_max rfl rfl rfl rfl ?_)
    | (refine Is_convert ?_; refine G_convR rfl rfl ?_)
    | (refine Is_indexAddr ?_; first
      | (refine G_idxR rfl rfl rfl ?_; intro _)
      | refine G_indexA rfl rfl (by first | decide | omega) rfl ?_)
    | (refine Is_store ?_; first
      | refine G_storeW rfl rfl rfl ?_
      | refine G_storeAW rfl rfl rfl rfl ?_
      | refine G_stR rfl rfl ?_)
    | (refine Is_extract ?_; first
      | refine G_extractT rfl rfl rfl ?_
      | refine G_extract rfl rfl rfl ?_)
    | (refine Is_field ?_; first
      | refine G_fieldS rfl rfl rfl ?_
      | refine G_fieldG rfl rfl rfl ?_)
    | (refine Is_un ?_; first
      | refine G_notR rfl rfl ?_
      | refine G_negR rfl rfl ?_)
    | (refine Is_guard ?_; refine G_guardI ?_)
    | (refine Is_pick ?_; first
      | refine G_pickT rfl rfl rfl ?_
      | refine G_pickF rfl rfl rfl ?_
      | (refine G_pickD rfl (fun hc => ?_) (fun hc => ?_) <;> try (exfalso; omega)))
    | (refine Is_lit ?_; refine G_litR rfl rfl rfl rfl rfl ?_; intro v_)
    | (refine Is_slice ?_; first
      | (refine G_cutLo rfl rfl rfl ?_; intro _)
      | (refine G_cutHi rfl rfl rfl ?_; intro _)
      | (refine G_cutBoth rfl rfl rfl rfl ?_; intro _))
    | (refine Is_makeFunc ?_; refine G_makeFunc rfl rfl rfl ?_)
    | (refine Is_alloc ?_; first
      | refine G_alloc rfl fun b_ => ?_
      | refine G_allocA rfl fun b_ => ?_)
    | (refine Is_make ?_; refine G_makeR rfl rfl rfl fun v_ => ?_)
    | (refine Is_box ?_; refine G_boxR rfl rfl fun b_ => ?_)
    | (refine Is_build ?_; refine G_buildR rfl rfl ?_)
    | (refine Is_nilCheck ?_; refine G_nilCheck rfl rfl ?_))
  | (refine Is_GC ?_; first
    | refine GC_seq ?_
    | (refine GC_regionR ?_; intro ops_ ri_)
    | (refine Is_cond ?_; first
      | refine GC_condT rfl ?_
      | refine GC_condF rfl ?_
      | (refine GC_condD rfl (fun hc => ?_) (fun hc => ?_) <;> try (exfalso; omega)))
    | refine GC_skip ?_
    | refine GC_block ?_
    | refine GC_exit ?_
    | refine GC_ret ?_
    | (refine GC_drawI ?_; intro ops_ ri_))
  | (refine Is_At ?_; first
    | refine At_then ?_
    | refine At_then_exit ?_
    | refine At_then_ret ?_
    | refine At_block ?_
    | refine At_block_ret ?_
    | refine At_block_hit ?_
    | refine At_block_miss rfl ?_
    | refine At_roundS_exit ?_
    | refine At_roundS_ret ?_
    | exact X_done rfl (List.Sublist.refl _)
    | refine C_doneD rfl ?_)
  | (refine Is_GAt ?_; first
    | refine G_guardT rfl ?_
    | refine G_guardF rfl ?_
    | refine G_guardTF rfl rfl ?_
    | refine G_guardFT rfl rfl ?_
    | refine G_guardUU rfl rfl ?_
    | (refine G_guardD rfl (fun hc => ?_) (fun hc => ?_) <;> try (exfalso; omega)))
  | refine DR_nil rfl ?_
  | (refine DR_idx rfl rfl rfl rfl rfl ?_; intro _)
  | (refine DR_cutLo rfl rfl rfl rfl rfl ?_; intro _)
  | (refine DR_sliceG rfl ?_; refine DR_cutLoT rfl rfl rfl rfl rfl rfl ?_; intro _)
  | (refine DR_cutHi rfl rfl rfl rfl rfl ?_; intro _)
  | (refine DR_cutBoth rfl rfl rfl rfl rfl rfl ?_; intro _)
  | (apply DR_x rfl rfl rfl; intro mm)
  | refine DR_c rfl rfl rfl ?_)
    refine GC_loopS (X := Nat × Value × Int) (fun y => y.1 ≤ l.length ∧ (∀ x ∈ l.take y.1, -9223372036854775808 ≤ x + by_ ∧ x + by_ ≤ 9223372036854775807) ∧ y.2.2 = if y.1 = 0 then l[0]'hs.2 else lmin (l.take y.1)) (fun y s => (8, I y.1) :: (6, y.2.1) :: (7, I y.2.2) :: s)
      (fun y q => row y.2.1 3 ((l.take y.1).map (· + by_)) :: q) (fun y => l.length - y.1) (0, _, _) ⟨Nat.zero_le _, by simp, rfl⟩ (by repeat (first | exact trivial | refine And.intro rfl ?_)) ?_ (hm0 := by simp only [List.take_zero, List.map_nil]; exact rfl)
    rintro ⟨i, q, z⟩ ⟨hil, hok, hz⟩
    simp only at hil hok hz ⊢
    have hm1 : (l.take i).length ≤ 300 := by rw [List.length_take]; omega
    repeat' (first
  | (refine Is_G ?_; first
    | (refine Is_move ?_; refine G_move rfl rfl ?_)
    | (refine Is_assign ?_; refine G_assign rfl rfl ?_)
    | refine G_nilC ?_
    | (refine G_nil ?_; try clear ri_; try clear ops_)
    | (refine Is_bin ?_; refine G_binR rfl rfl rfl ?_)
    | (refine Is_load ?_; first
      | refine G_loadB rfl rfl rfl ?_
      | refine G_ldR rfl rfl ?_
      | refine G_loadA0 rfl rfl rfl ?_
      | refine G_loadAP rfl rfl ?_)
    | (refine Is_fieldAddr ?_; first
      | refine G_fieldOff rfl rfl ?_
      | refine G_fieldAny rfl rfl ?_)
    | (refine Is_callv ?_; first
      | refine G_callV rfl rfl rfl ?_
      | refine G_callR rfl rfl rfl fun v_ h_ => ?_)
    | (refine Is_builtin ?_; first
      | refine G_lenR rfl rfl ?_
      | (refine G_appLit rfl rfl rfl ?_; intro v_)
      | (refine G_appR rfl rfl rfl ?_; intro v_)
      | refine G_min rfl rfl rfl rfl ?_
      | refine G_max rfl rfl rfl rfl ?_)
    | (refine Is_convert ?_; refine G_convR rfl rfl ?_)
    | (refine Is_indexAddr ?_; first
      | (refine G_idxR rfl rfl rfl ?_; intro _)
      | refine G_indexA rfl rfl (by first | decide | omega) rfl ?_)
    | (refine Is_store ?_; first
      | refine G_storeW rfl rfl rfl ?_
      | refine G_storeAW rfl rfl rfl rfl ?_
      | refine G_stR rfl rfl ?_)
    | (refine Is_extract ?_; first
      | refine G_extractT rfl rfl rfl ?_
      | refine G_extract rfl rfl rfl ?_)
    | (refine Is_field ?_; first
      | refine G_fieldS rfl rfl rfl ?_
      | refine G_fieldG rfl rfl rfl ?_)
    | (refine Is_un ?_; first
      | refine G_notR rfl rfl ?_
      | refine G_negR rfl rfl ?_)
    | (refine Is_guard ?_; refine G_guardI ?_)
    | (refine Is_pick ?_; first
      | refine G_pickT rfl rfl rfl ?_
      | refine G_pickF rfl rfl rfl ?_
      | (refine G_pickD rfl (fun hc => ?_) (fun hc => ?_) <;> try (exfalso; omega)))
    | (refine Is_lit ?_; refine G_litR rfl rfl rfl rfl rfl ?_; intro v_)
    | (refine Is_slice ?_; first
      | (refine G_cutLo rfl rfl rfl ?_; intro _)
      | (refine G_cutHi rfl rfl rfl ?_; intro _)
      | (refine G_cutBoth rfl rfl rfl rfl ?_; intro _))
    | (refine Is_makeFunc ?_; refine G_makeFunc rfl rfl rfl ?_)
    | (refine Is_alloc ?_; first
      | refine G_alloc rfl fun b_ => ?_
      | refine G_allocA rfl fun b_ => ?_)
    | (refine Is_make ?_; refine G_makeR rfl rfl rfl fun v_ => ?_)
    | (refine Is_box ?_; refine G_boxR rfl rfl fun b_ => ?_)
    | (refine Is_build ?_; refine G_buildR rfl rfl ?_)
    | (refine Is_nilCheck ?_; refine G_nilCheck rfl rfl ?_))
  | (refine Is_GC ?_; first
    | refine GC_seq ?_
    | (refine GC_regionR ?_; intro ops_ ri_)
    | (refine Is_cond ?_; first
      | refine GC_condT rfl ?_
      | refine GC_condF rfl ?_
      | (refine GC_condD rfl (fun hc => ?_) (fun hc => ?_) <;> try (exfalso; omega)))
    | refine GC_skip ?_
    | refine GC_block ?_
    | refine GC_exit ?_
    | refine GC_ret ?_
    | (refine GC_drawI ?_; intro ops_ ri_))
  | (refine Is_At ?_; first
    | refine At_then ?_
    | refine At_then_exit ?_
    | refine At_then_ret ?_
    | refine At_block ?_
    | refine At_block_ret ?_
    | refine At_block_hit ?_
    | refine At_block_miss rfl ?_
    | refine At_roundS_exit ?_
    | refine At_roundS_ret ?_
    | exact X_done rfl (List.Sublist.refl _)
    | refine C_doneD rfl ?_)
  | (refine Is_GAt ?_; first
    | refine G_guardT rfl ?_
    | refine G_guardF rfl ?_
    | refine G_guardTF rfl rfl ?_
    | refine G_guardFT rfl rfl ?_
    | refine G_guardUU rfl rfl ?_
    | (refine G_guardD rfl (fun hc => ?_) (fun hc => ?_) <;> try (exfalso; omega)))
  | refine DR_nil rfl ?_
  | (refine DR_idx rfl rfl rfl rfl rfl ?_; intro _)
  | (refine DR_cutLo rfl rfl rfl rfl rfl ?_; intro _)
  | (refine DR_sliceG rfl ?_; refine DR_cutLoT rfl rfl rfl rfl rfl rfl ?_; intro _)
  | (refine DR_cutHi rfl rfl rfl rfl rfl ?_; intro _)
  | (refine DR_cutBoth rfl rfl rfl rfl rfl rfl ?_; intro _)
  | (apply DR_x rfl rfl rfl; intro mm)
  | refine DR_c rfl rfl rfl ?_)
    · have hil2 : i < l.length := by omega
      have hx := hi _ (List.getElem_mem hil2)
      by_cases hr : -9223372036854775808 ≤ l[i] + by_ ∧ l[i] + by_ ≤ 9223372036854775807
      · repeat' (first
  | (refine Is_G ?_; first
    | (refine Is_move ?_; refine G_move rfl rfl ?_)
    | (refine Is_assign ?_; refine G_assign rfl rfl ?_)
    | refine G_nilC ?_
    | (refine G_nil ?_; try clear ri_; try clear ops_)
    | (refine Is_bin ?_; refine G_binR rfl rfl rfl ?_)
    | (refine Is_load ?_; first
      | refine G_loadB rfl rfl rfl ?_
      | refine G_ldR rfl rfl ?_
      | refine G_loadA0 rfl rfl rfl ?_
      | refine G_loadAP rfl rfl ?_)
    | (refine Is_fieldAddr ?_; first
      | refine G_fieldOff rfl rfl ?_
      | refine G_fieldAny rfl rfl ?_)
    | (refine Is_callv ?_; first
      | refine G_callV rfl rfl rfl ?_
      | refine G_callR rfl rfl rfl fun v_ h_ => ?_)
    | (refine Is_builtin ?_; first
      | refine G_lenR rfl rfl ?_
      | (refine G_appLit rfl rfl rfl ?_; intro v_)
      | (refine G_appR rfl rfl rfl ?_; intro v_)
      | refine G_min rfl rfl rfl rfl ?_
      | refine G_max rfl rfl rfl rfl ?_)
    | (refine Is_convert ?_; refine G_convR rfl rfl ?_)
    | (refine Is_indexAddr ?_; first
      | (refine G_idxR rfl rfl rfl ?_; intro _)
      | refine G_indexA rfl rfl (by first | decide | omega) rfl ?_)
    | (refine Is_store ?_; first
      | refine G_storeW rfl rfl rfl ?_
      | refine G_storeAW rfl rfl rfl rfl ?_
      | refine G_stR rfl rfl ?_)
    | (refine Is_extract ?_; first
      | refine G_extractT rfl rfl rfl ?_
      | refine G_extract rfl rfl rfl ?_)
    | (refine Is_field ?_; first
      | refine G_fieldS rfl rfl rfl ?_
      | refine G_fieldG rfl rfl rfl ?_)
    | (refine Is_un ?_; first
      | refine G_notR rfl rfl ?_
      | refine G_negR rfl rfl ?_)
    | (refine Is_guard ?_; refine G_guardI ?_)
    | (refine Is_pick ?_; first
      | refine G_pickT rfl rfl rfl ?_
      | refine G_pickF rfl rfl rfl ?_
      | (refine G_pickD rfl (fun hc => ?_) (fun hc => ?_) <;> try (exfalso; omega)))
    | (refine Is_lit ?_; refine G_litR rfl rfl rfl rfl rfl ?_; intro v_)
    | (refine Is_slice ?_; first
      | (refine G_cutLo rfl rfl rfl ?_; intro _)
      | (refine G_cutHi rfl rfl rfl ?_; intro _)
      | (refine G_cutBoth rfl rfl rfl rfl ?_; intro _))
    | (refine Is_makeFunc ?_; refine G_makeFunc rfl rfl rfl ?_)
    | (refine Is_alloc ?_; first
      | refine G_alloc rfl fun b_ => ?_
      | refine G_allocA rfl fun b_ => ?_)
    | (refine Is_make ?_; refine G_makeR rfl rfl rfl fun v_ => ?_)
    | (refine Is_box ?_; refine G_boxR rfl rfl fun b_ => ?_)
    | (refine Is_build ?_; refine G_buildR rfl rfl ?_)
    | (refine Is_nilCheck ?_; refine G_nilCheck rfl rfl ?_))
  | (refine Is_GC ?_; first
    | refine GC_seq ?_
    | (refine GC_regionR ?_; intro ops_ ri_)
    | (refine Is_cond ?_; first
      | refine GC_condT rfl ?_
      | refine GC_condF rfl ?_
      | (refine GC_condD rfl (fun hc => ?_) (fun hc => ?_) <;> try (exfalso; omega)))
    | refine GC_skip ?_
    | refine GC_block ?_
    | refine GC_exit ?_
    | refine GC_ret ?_
    | (refine GC_drawI ?_; intro ops_ ri_))
  | (refine Is_At ?_; first
    | refine At_then ?_
    | refine At_then_exit ?_
    | refine At_then_ret ?_
    | refine At_block ?_
    | refine At_block_ret ?_
    | refine At_block_hit ?_
    | refine At_block_miss rfl ?_
    | refine At_roundS_exit ?_
    | refine At_roundS_ret ?_
    | exact X_done rfl (List.Sublist.refl _)
    | refine C_doneD rfl ?_)
  | (refine Is_GAt ?_; first
    | refine G_guardT rfl ?_
    | refine G_guardF rfl ?_
    | refine G_guardTF rfl rfl ?_
    | refine G_guardFT rfl rfl ?_
    | refine G_guardUU rfl rfl ?_
    | (refine G_guardD rfl (fun hc => ?_) (fun hc => ?_) <;> try (exfalso; omega)))
  | refine DR_nil rfl ?_
  | (refine DR_idx rfl rfl rfl rfl rfl ?_; intro _)
  | (refine DR_cutLo rfl rfl rfl rfl rfl ?_; intro _)
  | (refine DR_sliceG rfl ?_; refine DR_cutLoT rfl rfl rfl rfl rfl rfl ?_; intro _)
  | (refine DR_cutHi rfl rfl rfl rfl rfl ?_; intro _)
  | (refine DR_cutBoth rfl rfl rfl rfl rfl rfl ?_; intro _)
  | (apply DR_x rfl rfl rfl; intro mm)
  | refine DR_c rfl rfl rfl ?_)
        · refine ret_ rfl (by repeat (first | exact ResAll.nil | (apply ResAll.cons; first | exact .tmp rfl | exact .cell rfl rfl | exact .one rfl))) fun w' h' => ?_
          exact .mk rfl h'
        · refine At_roundS (i + 1, _, min z l[i]) ⟨by simp only; omega, fun x hx2 => ?_, ?_⟩ (by simp only; omega) (by repeat (first | exact trivial | refine And.intro rfl ?_)) (by repeat (first | exact trivial | refine And.intro rfl ?_))
          · simp only [List.take_succ_eq_append_getElem hil2, List.mem_append, List.mem_singleton] at hx2
            rcases hx2 with h | rfl
            · exact hok x h
            · exact hr
          · simp only [Nat.add_eq_zero_iff, Nat.one_ne_zero, and_false, if_false]
            by_cases h0 : i = 0
            · subst h0
              rw [hz, if_pos rfl, lmin_one hs.2]; omega
            · rw [hz, if_neg h0, lmin_take (by omega) hil2]
      · refine Is_bin ?_
        refine G_add rfl rfl rfl rfl ?_
        have hw := wrap_out (x := l[i] + by_) (by omega) (by omega)
        generalize IntKind.i64.wrap (l[i] + by_) = wr at *
        repeat' (first
  | (refine Is_G ?_; first
    | (refine Is_move ?_; refine G_move rfl rfl ?_)
    | (refine Is_assign ?_; refine G_assign rfl rfl ?_)
    | refine G_nilC ?_
    | (refine G_nil ?_; try clear ri_; try clear ops_)
    | (refine Is_bin ?_; refine G_binR rfl rfl rfl ?_)
    | (refine Is_load ?_; first
      | refine G_loadB rfl rfl rfl ?_
      | refine G_ldR rfl rfl ?_
      | refine G_loadA0 rfl rfl rfl ?_
      | refine G_loadAP rfl rfl ?_)
    | (refine Is_fieldAddr ?_; first
      | refine G_fieldOff rfl rfl ?_
      | refine G_fieldAny rfl rfl ?_)
    | (refine Is_callv ?_; first
      | refine G_callV rfl rfl rfl ?_
      | refine G_callR rfl rfl rfl fun v_ h_ => ?_)
    | (refine Is_builtin ?_; first
      | refine G_lenR rfl rfl ?_
      | (refine G_appLit rfl rfl rfl ?_; intro v_)
      | (refine G_appR rfl rfl rfl ?_; intro v_)
      | refine G_min rfl rfl rfl rfl ?_
      | refine G_max rfl rfl rfl rfl ?_)
    | (refine Is_convert ?_; refine G_convR rfl rfl ?_)
    | (refine Is_indexAddr ?_; first
      | (refine G_idxR rfl rfl rfl ?_; intro _)
      | refine G_indexA rfl rfl (by first | decide | omega) rfl ?_)
    | (refine Is_store ?_; first
      | refine G_storeW rfl rfl rfl ?_
      | refine G_storeAW rfl rfl rfl rfl ?_
      | refine G_stR rfl rfl ?_)
    | (refine Is_extract ?_; first
      | refine G_extractT rfl rfl rfl ?_
      | refine G_extract rfl rfl rfl ?_)
    | (refine Is_field ?_; first
      | refine G_fieldS rfl rfl rfl ?_
      | refine G_fieldG rfl rfl rfl ?_)
    | (refine Is_un ?_; first
      | refine G_notR rfl rfl ?_
      | refine G_negR rfl rfl ?_)
    | (refine Is_guard ?_; refine G_guardI ?_)
    | (refine Is_pick ?_; first
      | refine G_pickT rfl rfl rfl ?_
      | refine G_pickF rfl rfl rfl ?_
      | (refine G_pickD rfl (fun hc => ?_) (fun hc => ?_) <;> try (exfalso; omega)))
    | (refine Is_lit ?_; refine G_litR rfl rfl rfl rfl rfl ?_; intro v_)
    | (refine Is_slice ?_; first
      | (refine G_cutLo rfl rfl rfl ?_; intro _)
      | (refine G_cutHi rfl rfl rfl ?_; intro _)
      | (refine G_cutBoth rfl rfl rfl rfl ?_; intro _))
    | (refine Is_makeFunc ?_; refine G_makeFunc rfl rfl rfl ?_)
    | (refine Is_alloc ?_; first
      | refine G_alloc rfl fun b_ => ?_
      | refine G_allocA rfl fun b_ => ?_)
    | (refine Is_make ?_; refine G_makeR rfl rfl rfl fun v_ => ?_)
    | (refine Is_box ?_; refine G_boxR rfl rfl fun b_ => ?_)
    | (refine Is_build ?_; refine G_buildR rfl rfl ?_)
    | (refine Is_nilCheck ?_; refine G_nilCheck rfl rfl ?_))
  | (refine Is_GC ?_; first
    | refine GC_seq ?_
    | (refine GC_regionR ?_; intro ops_ ri_)
    | (refine Is_cond ?_; first
      | refine GC_condT rfl ?_
      | refine GC_condF rfl ?_
      | (refine GC_condD rfl (fun hc => ?_) (fun hc => ?_) <;> try (exfalso; omega)))
    | refine GC_skip ?_
    | refine GC_block ?_
    | refine GC_exit ?_
    | refine GC_ret ?_
    | (refine GC_drawI ?_; intro ops_ ri_))
  | (refine Is_At ?_; first
    | refine At_then ?_
    | refine At_then_exit ?_
    | refine At_then_ret ?_
    | refine At_block ?_
    | refine At_block_ret ?_
    | refine At_block_hit ?_
    | refine At_block_miss rfl ?_
    | refine At_roundS_exit ?_
    | refine At_roundS_ret ?_
    | exact X_done rfl (List.Sublist.refl _)
    | refine C_doneD rfl ?_)
  | (refine Is_GAt ?_; first
    | refine G_guardT rfl ?_
    | refine G_guardF rfl ?_
    | refine G_guardTF rfl rfl ?_
    | refine G_guardFT rfl rfl ?_
    | refine G_guardUU rfl rfl ?_
    | (refine G_guardD rfl (fun hc => ?_) (fun hc => ?_) <;> try (exfalso; omega)))
  | refine DR_nil rfl ?_
  | (refine DR_idx rfl rfl rfl rfl rfl ?_; intro _)
  | (refine DR_cutLo rfl rfl rfl rfl rfl ?_; intro _)
  | (refine DR_sliceG rfl ?_; refine DR_cutLoT rfl rfl rfl rfl rfl rfl ?_; intro _)
  | (refine DR_cutHi rfl rfl rfl rfl rfl ?_; intro _)
  | (refine DR_cutBoth rfl rfl rfl rfl rfl rfl ?_; intro _)
  | (apply DR_x rfl rfl rfl; intro mm)
  | refine DR_c rfl rfl rfl ?_)
        · refine ret_ rfl (by repeat (first | exact ResAll.nil | (apply ResAll.cons; first | exact .tmp rfl | exact .cell rfl rfl | exact .one rfl))) fun w' h' => ?_
          exact .mk rfl h'
        · exfalso
          have hc2 := Classical.not_not.1 hc
          rw [decide_eq_decide] at hc2
          omega
    · obtain rfl : i = l.length := by omega
      rw [List.take_of_length_le (Nat.le_refl _)] at hok hm1 hz
      rw [if_neg (by omega)] at hz
      subst hz
      have hok2 : okI (l.map (· + by_)) := fun x hx => by
        obtain ⟨y, hy, rfl⟩ := List.mem_map.1 hx
        exact hok y hy
      rw [show (l.take l.length).map (fun x => x + by_) = l.map (· + by_) by rw [List.take_of_length_le (Nat.le_refl _)]]
      haveI : Eqn (pkB (l.map (· + by_))) (packB (l.map (· + by_))) := ⟨pk_small (by rw [List.length_map]; omega)⟩
      haveI : Eqn (pkE (l.map (· + by_))) 0 := ⟨pe_small (by rw [List.length_map]; omega)⟩
      have hmr := hi _ (lmin_mem hs.2)
      have hmr2 := hok _ (lmin_mem hs.2)
      have hrm := tail_room hs.2
      have hrm2 := tail_room (l := l.map (· + by_)) (by simpa using hs.2)
      rw [lmin_add by_ hs.2, List.length_map] at hrm2
      have hts := tail_same by_ hs.2 _ _ rfl rfl
      have v1 := vint_10 (BitVec.ofNat 64 l.length)
      have v2 := vint_10 (zig (lmin l))
      have v3 := vint_10 (zig (lmin l + by_))
      generalize hP2 : packB (l.map (· + by_)) = P2 at *
      haveI : Fct ((vint (BitVec.ofNat 64 l.length)).length + (vint (zig (lmin l))).length ≤ (packB l).length ∧ (packB l).length ≤ (packB l).length) := ⟨⟨hrm, Nat.le_refl _⟩⟩
      haveI : Fct ((vint (BitVec.ofNat 64 l.length)).length + (vint (zig (lmin l + by_))).length ≤ P2.length ∧ P2.length ≤ P2.length) := ⟨⟨hrm2, Nat.le_refl _⟩⟩
      haveI : Fct (((packB l).drop ((vint (BitVec.ofNat 64 l.length)).length + (vint (zig (lmin l))).length)).take ((packB l).length - ((vint (BitVec.ofNat 64 l.length)).length + (vint (zig (lmin l))).length)) =
        (P2.drop ((vint (BitVec.ofNat 64 l.length)).length + (vint (zig (lmin l + by_))).length)).take (P2.length - ((vint (BitVec.ofNat 64 l.length)).length + (vint (zig (lmin l + by_))).length))) := ⟨by
          rw [List.take_of_length_le (by simp), List.take_of_length_le (by simp), hts]⟩
      repeat' (first
  | (refine Is_G ?_; first
    | (refine Is_move ?_; refine G_move rfl rfl ?_)
    | (refine Is_assign ?_; refine G_assign rfl rfl ?_)
    | refine G_nilC ?_
    | (refine G_nil ?_; try clear ri_; try clear ops_)
    | (refine Is_bin ?_; refine G_binR rfl rfl rfl ?_)
    | (refine Is_load ?_; first
      | refine G_loadB rfl rfl rfl ?_
      | refine G_ldR rfl rfl ?_
      | refine G_loadA0 rfl rfl rfl ?_
      | refine G_loadAP rfl rfl ?_)
    | (refine Is_fieldAddr ?_; first
      | refine G_fieldOff rfl rfl ?_
      | refine G_fieldAny rfl rfl ?_)
    | (refine Is_callv ?_; first
      | refine G_callV rfl rfl rfl ?_
      | refine G_callR rfl rfl rfl fun v_ h_ => ?_)
    | (refine Is_builtin ?_; first
      | refine G_lenR rfl rfl ?_
      | (refine G_appLit rfl rfl rfl ?_; intro v_)
      | (refine G_appR rfl rfl rfl ?_; intro v_)
      | refine G_min rfl rfl rfl rfl ?_
      | refine G_max rfl rfl rfl rfl ?_)
    | (refine Is_convert ?_; refine G_convR rfl rfl ?_)
    | (refine Is_indexAddr ?_; first
      | (refine G_idxR rfl rfl rfl ?_; intro _)
      | refine G_indexA rfl rfl (by first | decide | omega) rfl ?_)
    | (refine Is_store ?_; first
      | refine G_storeW rfl rfl rfl ?_
      | refine G_storeAW rfl rfl rfl rfl ?_
      | refine G_stR rfl rfl ?_)
    | (refine Is_extract ?_; first
      | refine G_extractT rfl rfl rfl ?_
      | refine G_extract rfl rfl rfl ?_)
    | (refine Is_field ?_; first
      | refine G_fieldS rfl rfl rfl ?_
      | refine G_fieldG rfl rfl rfl ?_)
    | (refine Is_un ?_; first
      | refine G_notR rfl rfl ?_
      | refine G_negR rfl rfl ?_)
    | (refine Is_guard ?_; refine G_guardI ?_)
    | (refine Is_pick ?_; first
      | refine G_pickT rfl rfl rfl ?_
      | refine G_pickF rfl rfl rfl ?_
      | (refine G_pickD rfl (fun hc => ?_) (fun hc => ?_) <;> try (exfalso; omega)))
    | (refine Is_lit ?_; refine G_litR rfl rfl rfl rfl rfl ?_; intro v_)
    | (refine Is_slice ?_; first
      | (refine G_cutLo rfl rfl rfl ?_; intro _)
      | (refine G_cutHi rfl rfl rfl ?_; intro _)
      | (refine G_cutBoth rfl rfl rfl rfl ?_; intro _))
    | (refine Is_makeFunc ?_; refine G_makeFunc rfl rfl rfl ?_)
    | (refine Is_alloc ?_; first
      | refine G_alloc rfl fun b_ => ?_
      | refine G_allocA rfl fun b_ => ?_)
    | (refine Is_make ?_; refine G_makeR rfl rfl rfl fun v_ => ?_)
    | (refine Is_box ?_; refine G_boxR rfl rfl fun b_ => ?_)
    | (refine Is_build ?_; refine G_buildR rfl rfl ?_)
    | (refine Is_nilCheck ?_; refine G_nilCheck rfl rfl ?_))
  | (refine Is_GC ?_; first
    | refine GC_seq ?_
    | (refine GC_regionR ?_; intro ops_ ri_)
    | (refine Is_cond ?_; first
      | refine GC_condT rfl ?_
      | refine GC_condF rfl ?_
      | (refine GC_condD rfl (fun hc => ?_) (fun hc => ?_) <;> try (exfalso; omega)))
    | refine GC_skip ?_
    | refine GC_block ?_
    | refine GC_exit ?_
    | refine GC_ret ?_
    | (refine GC_drawI ?_; intro ops_ ri_))
  | (refine Is_At ?_; first
    | refine At_then ?_
    | refine At_then_exit ?_
    | refine At_then_ret ?_
    | refine At_block ?_
    | refine At_block_ret ?_
    | refine At_block_hit ?_
    | refine At_block_miss rfl ?_
    | refine At_roundS_exit ?_
    | refine At_roundS_ret ?_
    | exact X_done rfl (List.Sublist.refl _)
    | refine C_doneD rfl ?_)
  | (refine Is_GAt ?_; first
    | refine G_guardT rfl ?_
    | refine G_guardF rfl ?_
    | refine G_guardTF rfl rfl ?_
    | refine G_guardFT rfl rfl ?_
    | refine G_guardUU rfl rfl ?_
    | (refine G_guardD rfl (fun hc => ?_) (fun hc => ?_) <;> try (exfalso; omega)))
  | refine DR_nil rfl ?_
  | (refine DR_idx rfl rfl rfl rfl rfl ?_; intro _)
  | (refine DR_cutLo rfl rfl rfl rfl rfl ?_; intro _)
  | (refine DR_sliceG rfl ?_; refine DR_cutLoT rfl rfl rfl rfl rfl rfl ?_; intro _)
  | (refine DR_cutHi rfl rfl rfl rfl rfl ?_; intro _)
  | (refine DR_cutBoth rfl rfl rfl rfl rfl rfl ?_; intro _)
  | (apply DR_x rfl rfl rfl; intro mm)
  | refine DR_c rfl rfl rfl ?_)
      all_goals
        refine ret_ rfl (by repeat (first | exact ResAll.nil | (apply ResAll.cons; first | exact .tmp rfl | exact .cell rfl rfl | exact .one rfl))) fun w' h' => ?_
        exact .mk rfl h'
  · refine enter (N := 122) (args := [v0, I by_]) Try.func8 rfl rfl rfl (St.refl w) ?_
    repeat' (first
  | (refine Is_G ?_; first
    | (refine Is_move ?_; refine G_move rfl rfl ?_)
    | (refine Is_assign ?_; refine G_assign rfl rfl ?_)
    | refine G_nilC ?_
    | (refine G_nil ?_; try clear ri_; try clear ops_)
    | (refine Is_bin ?_; refine G_binR rfl rfl rfl ?_)
    | (refine Is_load ?_; first
      | refine G_loadB rfl rfl rfl ?_
      | refine G_ldR rfl rfl ?_
      | refine G_loadA0 rfl rfl rfl ?_
      | refine G_loadAP rfl rfl ?_)
    | (refine Is_fieldAddr ?_; first
      | refine G_fieldOff rfl rfl ?_
      | refine G_fieldAny rfl rfl ?_)
    | (refine Is_callv ?_; first
      | refine G_callV rfl rfl rfl ?_
      | refine G_callR rfl rfl rfl fun v_ h_ => ?_)
    | (refine Is_builtin ?_; first
      | refine G_lenR rfl rfl ?_
      | (refine G_appLit rfl rfl rfl ?_; intro v_)
      | (refine G_appR rfl rfl rfl ?_; intro v_)
      | refine G_min rfl rfl rfl rfl ?_
      | refine G_max rfl rfl rfl rfl ?_)
    | (refine Is_convert ?_; refine G_convR rfl rfl ?_)
    | (refine Is_indexAddr ?_; first
      | (refine G_idxR rfl rfl rfl ?_; intro _)
      | refine G_indexA rfl rfl (by first | decide | omega) rfl ?_)
    | (refine Is_store ?_; first
      | refine G_storeW rfl rfl rfl ?_
      | refine G_storeAW rfl rfl rfl rfl ?_
      | refine G_stR rfl rfl ?_)
    | (refine Is_extract ?_; first
      | refine G_extractT rfl rfl rfl ?_
      | refine G_extract rfl rfl rfl ?_)
    | (refine Is_field ?_; first
      | refine G_fieldS rfl rfl rfl ?_
      | refine G_fieldG rfl rfl rfl ?_)
    | (refine Is_un ?_; first
      | refine G_notR rfl rfl ?_
      | refine G_negR rfl rfl ?_)
    | (refine Is_guard ?_; refine G_guardI ?_)
    | (refine Is_pick ?_; first
      | refine G_pickT rfl rfl rfl ?_
      | refine G_pickF rfl rfl rfl ?_
      | (refine G_pickD rfl (fun hc => ?_) (fun hc => ?_) <;> try (exfalso; omega)))
    | (refine Is_lit ?_; refine G_litR rfl rfl rfl rfl rfl ?_; intro v_)
    | (refine Is_slice ?_; first
      | (refine G_cutLo rfl rfl rfl ?_; intro _)
      | (refine G_cutHi rfl rfl rfl ?_; intro _)
      | (refine G_cutBoth rfl rfl rfl rfl ?_; intro _))
    | (refine Is_makeFunc ?_; refine G_makeFunc rfl rfl rfl ?_)
    | (refine Is_alloc ?_; first
      | refine G_alloc rfl fun b_ => ?_
      | refine G_allocA rfl fun b_ => ?_)
    | (refine Is_make ?_; refine G_makeR rfl rfl rfl fun v_ => ?_)
    | (refine Is_box ?_; refine G_boxR rfl rfl fun b_ => ?_)
    | (refine Is_build ?_; refine G_buildR rfl rfl ?_)
    | (refine Is_nilCheck ?_; refine G_nilCheck rfl rfl ?_))
  | (refine Is_GC ?_; first
    | refine GC_seq ?_
    | (refine GC_regionR ?_; intro ops_ ri_)
    | (refine Is_cond ?_; first
      | refine GC_condT rfl ?_
      | refine GC_condF rfl ?_
      | (refine GC_condD rfl (fun hc => ?_) (fun hc => ?_) <;> try (exfalso; omega)))
    | refine GC_skip ?_
    | refine GC_block ?_
    | refine GC_exit ?_
    | refine GC_ret ?_
    | (refine GC_drawI ?_; intro ops_ ri_))
  | (refine Is_At ?_; first
    | refine At_then ?_
    | refine At_then_exit ?_
    | refine At_then_ret ?_
    | refine At_block ?_
    | refine At_block_ret ?_
    | refine At_block_hit ?_
    | refine At_block_miss rfl ?_
    | refine At_roundS_exit ?_
    | refine At_roundS_ret ?_
    | exact X_done rfl (List.Sublist.refl _)
    | refine C_doneD rfl ?_)
  | (refine Is_GAt ?_; first
    | refine G_guardT rfl ?_
    | refine G_guardF rfl ?_
    | refine G_guardTF rfl rfl ?_
    | refine G_guardFT rfl rfl ?_
    | refine G_guardUU rfl rfl ?_
    | (refine G_guardD rfl (fun hc => ?_) (fun hc => ?_) <;> try (exfalso; omega)))
  | refine DR_nil rfl ?_
  | (refine DR_idx rfl rfl rfl rfl rfl ?_; intro _)
  | (refine DR_cutLo rfl rfl rfl rfl rfl ?_; intro _)
  | (refine DR_sliceG rfl ?_; refine DR_cutLoT rfl rfl rfl rfl rfl rfl ?_; intro _)
  | (refine DR_cutHi rfl rfl rfl rfl rfl ?_; intro _)
  | (refine DR_cutBoth rfl rfl rfl rfl rfl rfl ?_; intro _)
  | (apply DR_x rfl rfl rfl; intro mm)
  | refine DR_c rfl rfl rfl ?_)
    all_goals
      refine ret_ rfl (by repeat (first | exact ResAll.nil | (apply ResAll.cons; first | exact .tmp rfl | exact .cell rfl rfl | exact .one rfl))) fun w' h' => ?_
      exact .mk rfl h'
end Go.Proofs.Ytjdbdjmfimbbkaa
