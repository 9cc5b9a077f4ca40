/- The walk of BitpackCanonical. -/
import Derived.Test.YtjdbdjmfimbbkaaBpk
set_option linter.unusedVariables false
set_option linter.unusedSimpArgs false
set_option maxRecDepth 100000
set_option maxHeartbeats 4000000
namespace Go.Proofs.Ytjdbdjmfimbbkaa
open Go.RowKit
attribute [local irreducible] G GC At wpL DR XPost CPost Cut

theorem unp_canon {bs : List (BitVec 8)} {l : List Int} {off : Nat} (h : unpB bs = .ok (l, off)) : l.length ≤ 4096 ∧ okI l ∧ packB l ++ bs.drop off = bs := by
  obtain ⟨n, k, h1, hh⟩ := unp_ok h
  rcases hh with ⟨h0, rfl, rfl⟩ | ⟨_, h4, hl, hi, hp, _⟩
  · refine ⟨by simp, by intro x hx; simp at hx, ?_⟩
    have e : packB [] = vint 0#64 := by rw [packB, if_pos List.length_nil]
    have hn : n = 0#64 := BitVec.eq_of_toNat_eq h0
    rw [e, ← hn, ← rd_take h1, List.take_append_drop]
  · exact ⟨by omega, hi, by rw [hp, List.take_append_drop]⟩
theorem walk_BitpackCanonical (w : World) (v0 : Value) (bs : List (BitVec 8)) (h0 : Rd w v0 1 (bs.map B8)) :
    Calls Try.prog 5 #[v0] w (Is w (.bool true)) := by
  haveI := old_byte h0
  rcases h : unpB bs with e | ⟨l, off⟩
  · have he := unp_err h
    haveI := Eqn.mk h
    have n1 : ([] : List Int).length = 0 := rfl
    have n2 : ([] : List (BitVec 8)).length = 0 := rfl
    refine enter (N := 59) (args := [v0]) Try.func5 rfl rfl rfl (St.refl w) ?_
    repeat' (first
  | (refine Is_G ?_; first
    | (refine Is_move ?_; refine G_move rfl rfl ?_)
    | (refine Is_assign ?_; refine G_assign rfl rfl ?_)
    | refine G_nilC ?_
    | (refine G_nil ?_; try clear ri_; try clear ops_)
    | (refine Is_bin ?_; refine G_binR rfl rfl rfl ?_)
    | (refine Is_load ?_; first
      | refine G_loadB rfl rfl rfl ?_
      | refine G_ldR rfl rfl ?_
      | refine G_loadA0 rfl rfl rfl ?_
      | refine G_loadAP rfl rfl ?_)
    | (refine Is_fieldAddr ?_; first
      | refine G_fieldOff rfl rfl ?_
      | refine G_fieldAny rfl rfl ?_)
    | (refine Is_callv ?_; first
      | refine G_callV rfl rfl rfl ?_
      | refine G_callR rfl rfl rfl fun v_ h_ => ?_)
    | (refine Is_builtin ?_; first
      | refine G_lenR rfl rfl ?_
      | (refine G_appLit rfl rfl rfl ?_; intro v_)
      | (refine G_appR rfl rfl rfl ?_; intro v_)
      | refine G_min rfl rfl rfl rfl ?_
      | refine G_max rfl rfl rfl rfl ?_)
    | (refine Is_convert ?_; refine G_convR rfl rfl ?_)
    | (refine Is_indexAddr ?_; first
      | (refine G_idxR rfl rfl rfl ?_; intro _)
      | refine G_indexA rfl rfl (by first | decide | omega) rfl ?_)
    | (refine Is_store ?_; first
      | refine G_storeW rfl rfl rfl ?_
      | refine G_storeAW rfl rfl rfl rfl ?_
      | refine G_stR rfl rfl ?_)
    | (refine Is_extract ?_; first
      | refine G_extractT rfl rfl rfl ?_
      | refine G_extract rfl rfl rfl ?_)
    | (refine Is_field ?_; first
      | refine G_fieldS rfl rfl rfl ?_
      | refine G_fieldG rfl rfl rfl ?_)
    | (refine Is_un ?_; first
      | refine G_notR rfl rfl ?_
      | refine G_negR rfl rfl ?_)
    | (refine Is_guard ?_; refine G_guardI ?_)
    | (refine Is_pick ?_; first
      | refine G_pickT rfl rfl rfl ?_
      | refine G_pickF rfl rfl rfl ?_
      | (refine G_pickD rfl (fun hc => ?_) (fun hc => ?_) <;> try (exfalso; omega)))
    | (refine Is_lit ?_; refine G_litR rfl rfl rfl rfl rfl ?_; intro v_)
    | (refine Is_slice ?_; first
      | (refine G_cutLo rfl rfl rfl ?_; intro _)
      | (refine G_cutHi rfl rfl rfl ?_; intro _)
      | (refine G_cutBoth rfl rfl rfl rfl ?_; intro _))
    | (refine Is_makeFunc ?_; refine G_makeFunc rfl rfl rfl ?_)
    | (refine Is_alloc ?_; first
      | refine G_alloc rfl fun b_ => ?_
      | refine G_allocA rfl fun b_ => ?_)
    | (refine Is_make ?_; refine G_makeR rfl rfl rfl fun v_ => ?_)
    | (refine Is_box ?_; refine G_boxR rfl rfl fun b_ => ?_)
    | (refine Is_build ?_; refine G_buildR rfl rfl ?_)
    | (refine Is_nilCheck ?_; refine G_nilCheck rfl rfl ?_))
  | (refine Is_GC ?_; first
    | refine GC_seq ?_
    | (refine GC_regionR ?_; intro ops_ ri_)
    | (refine Is_cond ?_; first
      | refine GC_condT rfl ?_
      | refine GC_condF rfl ?_
      | (refine GC_condD rfl (fun hc => ?_) (fun hc => ?_) <;> try (exfalso; omega)))
    | refine GC_skip ?_
    | refine GC_block ?_
    | refine GC_exit ?_
    | refine GC_ret ?_
    | (refine GC_drawI ?_; intro ops_ ri_))
  | (refine Is_At ?_; first
    | refine At_then ?_
    | refine At_then_exit ?_
    | refine At_then_ret ?_
    | refine At_block ?_
    | refine At_block_ret ?_
    | refine At_block_hit ?_
    | refine At_block_miss rfl ?_
    | refine At_roundS_exit ?_
    | refine At_roundS_ret ?_
    | exact X_done rfl (List.Sublist.refl _)
    | refine C_doneD rfl ?_)
  | (refine Is_GAt ?_; first
    | refine G_guardT rfl ?_
    | refine G_guardF rfl ?_
    | refine G_guardTF rfl rfl ?_
    | refine G_guardFT rfl rfl ?_
    | refine G_guardUU rfl rfl ?_
    | (refine G_guardD rfl (fun hc => ?_) (fun hc => ?_) <;> try (exfalso; omega)))
  | refine DQ_nil rfl ?_
  | (refine DR_idx rfl rfl rfl rfl rfl ?_; intro _)
  | (refine DR_cutLo rfl rfl rfl rfl rfl ?_; intro _)
  | (refine DR_sliceG rfl ?_; refine DR_cutLoT rfl rfl rfl rfl rfl rfl ?_; intro _)
  | (refine DR_cutHi rfl rfl rfl rfl rfl ?_; intro _)
  | (refine DR_cutBoth rfl rfl rfl rfl rfl rfl ?_; intro _)
  | (apply DQ_x rfl rfl rfl; intro mm)
  | refine DQ_c rfl rfl rfl ?_)
    all_goals
      refine ret_ rfl (by repeat (first | exact ResAll.nil | (apply ResAll.cons; first | exact .tmp rfl | exact .cell rfl rfl | exact .one rfl))) fun w' h' => ?_
      exact .mk rfl h'
  · obtain ⟨hl, hi, hp⟩ := unp_canon h
    haveI := Eqn.mk h
    haveI : Eqn (pkB l) (packB l) := ⟨pk_small hl⟩
    haveI : Eqn (pkE l) 0 := ⟨pe_small hl⟩
    have hpl := packB_le hl
    haveI : Fct (packB l ++ bs.drop off = bs) := ⟨hp⟩
    have hdl : (bs.drop off).length = bs.length - off := by simp
    refine enter (N := 59) (args := [v0]) Try.func5 rfl rfl rfl (St.refl w) ?_
    repeat' (first
  | (refine Is_G ?_; first
    | (refine Is_move ?_; refine G_move rfl rfl ?_)
    | (refine Is_assign ?_; refine G_assign rfl rfl ?_)
    | refine G_nilC ?_
    | (refine G_nil ?_; try clear ri_; try clear ops_)
    | (refine Is_bin ?_; refine G_binR rfl rfl rfl ?_)
    | (refine Is_load ?_; first
      | refine G_loadB rfl rfl rfl ?_
      | refine G_ldR rfl rfl ?_
      | refine G_loadA0 rfl rfl rfl ?_
      | refine G_loadAP rfl rfl ?_)
    | (refine Is_fieldAddr ?_; first
      | refine G_fieldOff rfl rfl ?_
      | refine G_fieldAny rfl rfl ?_)
    | (refine Is_callv ?_; first
      | refine G_callV rfl rfl rfl ?_
      | refine G_callR rfl rfl rfl fun v_ h_ => ?_)
    | (refine Is_builtin ?_; first
      | refine G_lenR rfl rfl ?_
      | (refine G_appLit rfl rfl rfl ?_; intro v_)
      | (refine G_appR rfl rfl rfl ?_; intro v_)
      | refine G_min rfl rfl rfl rfl ?_
      | refine G_max rfl rfl rfl rfl ?_)
    | (refine Is_convert ?_; refine G_convR rfl rfl ?_)
    | (refine Is_indexAddr ?_; first
      | (refine G_idxR rfl rfl rfl ?_; intro _)
      | refine G_indexA rfl rfl (by first | decide | omega) rfl ?_)
    | (refine Is_store ?_; first
      | refine G_storeW rfl rfl rfl ?_
      | refine G_storeAW rfl rfl rfl rfl ?_
      | refine G_stR rfl rfl ?_)
    | (refine Is_extract ?_; first
      | refine G_extractT rfl rfl rfl ?_
      | refine G_extract rfl rfl rfl ?_)
    | (refine Is_field ?_; first
      | refine G_fieldS rfl rfl rfl ?_
      | refine G_fieldG rfl rfl rfl ?_)
    | (refine Is_un ?_; first
      | refine G_notR rfl rfl ?_
      | refine G_negR rfl rfl ?_)
    | (refine Is_guard ?_; refine G_guardI ?_)
    | (refine Is_pick ?_; first
      | refine G_pickT rfl rfl rfl ?_
      | refine G_pickF rfl rfl rfl ?_
      | (refine G_pickD rfl (fun hc => ?_) (fun hc => ?_) <;> try (exfalso; omega)))
    | (refine Is_lit ?_; refine G_litR rfl rfl rfl rfl rfl ?_; intro v_)
    | (refine Is_slice ?_; first
      | (refine G_cutLo rfl rfl rfl ?_; intro _)
      | (refine G_cutHi rfl rfl rfl ?_; intro _)
      | (refine G_cutBoth rfl rfl rfl rfl ?_; intro _))
    | (refine Is_makeFunc ?_; refine G_makeFunc rfl rfl rfl ?_)
    | (refine Is_alloc ?_; first
      | refine G_alloc rfl fun b_ => ?_
      | refine G_allocA rfl fun b_ => ?_)
    | (refine Is_make ?_; refine G_makeR rfl rfl rfl fun v_ => ?_)
    | (refine Is_box ?_; refine G_boxR rfl rfl fun b_ => ?_)
    | (refine Is_build ?_; refine G_buildR rfl rfl ?_)
    | (refine Is_nilCheck ?_; refine G_nilCheck rfl rfl ?_))
  | (refine Is_GC ?_; first
    | refine GC_seq ?_
    | (refine GC_regionR ?_; intro ops_ ri_)
    | (refine Is_cond ?_; first
      | refine GC_condT rfl ?_
      | refine GC_condF rfl ?_
      | (refine GC_condD rfl (fun hc => ?_) (fun hc => ?_) <;> try (exfalso; omega)))
    | refine GC_skip ?_
    | refine GC_block ?_
    | refine GC_exit ?_
    | refine GC_ret ?_
    | (refine GC_drawI ?_; intro ops_ ri_))
  | (refine Is_At ?_; first
    | refine At_then ?_
    | refine At_then_exit ?_
    | refine At_then_ret ?_
    | refine At_block ?_
    | refine At_block_ret ?_
    | refine At_block_hit ?_
    | refine At_block_miss rfl ?_
    | refine At_roundS_exit ?_
    | refine At_roundS_ret ?_
    | exact X_done rfl (List.Sublist.refl _)
    | refine C_doneD rfl ?_)
  | (refine Is_GAt ?_; first
    | refine G_guardT rfl ?_
    | refine G_guardF rfl ?_
    | refine G_guardTF rfl rfl ?_
    | refine G_guardFT rfl rfl ?_
    | refine G_guardUU rfl rfl ?_
    | (refine G_guardD rfl (fun hc => ?_) (fun hc => ?_) <;> try (exfalso; omega)))
  | refine DQ_nil rfl ?_
  | (refine DR_idx rfl rfl rfl rfl rfl ?_; intro _)
  | (refine DR_cutLo rfl rfl rfl rfl rfl ?_; intro _)
  | (refine DR_sliceG rfl ?_; refine DR_cutLoT rfl rfl rfl rfl rfl rfl ?_; intro _)
  | (refine DR_cutHi rfl rfl rfl rfl rfl ?_; intro _)
  | (refine DR_cutBoth rfl rfl rfl rfl rfl rfl ?_; intro _)
  | (apply DQ_x rfl rfl rfl; intro mm)
  | refine DQ_c rfl rfl rfl ?_)
    all_goals
      refine ret_ rfl (by repeat (first | exact ResAll.nil | (apply ResAll.cons; first | exact .tmp rfl | exact .cell rfl rfl | exact .one rfl))) fun w' h' => ?_
      exact .mk rfl h'
end Go.Proofs.Ytjdbdjmfimbbkaa
