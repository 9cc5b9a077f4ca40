/- The walk of DigestMatchesReference. -/
import Derived.Test.YtcmjfmofaligfaaDigG
import Derived.Test.YtcmjfmofaligfaaSlc
set_option linter.unusedVariables false
set_option linter.unusedSimpArgs false
set_option maxRecDepth 100000
namespace Go.Proofs.Ytcmjfmofaligfaa
open Go.RowKit
attribute [local irreducible] G GC At wpL DR XPost CPost Cut

def zf (z0 z1 z2 : BitVec 64) (j : Nat) : BitVec 64 := if j = 0 then z0 else if j = 1 then z1 else z2
theorem zf_at (z0 z1 z2 : BitVec 64) (j : Nat) (h : j < 3) : (#[U z0, U z1, U z2] : Array Value)[0 + j]? = some (U (zf z0 z1 z2 j)) := by
  match j, h with
  | 0, _ => rfl
  | 1, _ => rfl
  | 2, _ => rfl

def dx (z0 z1 z2 : BitVec 64) (l : List Int) : List (BitVec 64) := l.mapIdx fun k x => BitVec.ofInt 64 x ^^^ zf z0 z1 z2 (k % 3)
theorem dx_length (z0 z1 z2 : BitVec 64) (l : List Int) : (dx z0 z1 z2 l).length = l.length := by simp [dx]
theorem dx_snoc (z0 z1 z2 : BitVec 64) (l : List Int) (k : Nat) (h : k < l.length) : ((dx z0 z1 z2 l).take k).map U ++ [U (BitVec.ofInt 64 l[k] ^^^ zf z0 z1 z2 (k % 3))] = ((dx z0 z1 z2 l).take (k + 1)).map U := by
  have h2 : k < (dx z0 z1 z2 l).length := by rw [dx_length]; exact h
  rw [List.take_succ_eq_append_getElem h2, List.map_append]
  congr 2
  simp [dx]

set_option maxHeartbeats 2000000 in
theorem walk_DigestMatchesReference (w : World) (v0 : Value) (l : List Int) (hl : Rd w v0 1 (l.map I)) (bl : ∀ z ∈ l, -9223372036854775808 ≤ z ∧ z ≤ 9223372036854775807) (v1 : Value) (bs : List (BitVec 8)) (hb : Rd w v1 1 (bs.map B8)) (z0 z1 z2 : BitVec 64) :
    Calls Try.prog 3 #[v0, v1, .agg #[U z0, U z1, U z2]] w (Is w (.bool true)) := by
  have hL := RdO.old hl
  have hB := RdO.old hb
  obtain ⟨A, q, c, rfl, q1, q2, q3, q4⟩ := hl
  obtain rfl : l.length = q := by simpa using q1
  obtain ⟨A', q', c', rfl, q1', q2', q3', q4'⟩ := hb
  obtain rfl : bs.length = q' := by simpa using q1'
  unfold maxLen at q3 q3'
  refine enter (N := 127) (args := [.slice A l.length c, .slice A' bs.length c', .agg #[U z0, U z1, U z2]]) Try.func3 rfl rfl rfl (St.refl w) ?_
  clear q1 q1' q4'
  repeat (first
    | (refine Is_move ?_; refine G_move rfl rfl ?_)
    | (refine Is_assign ?_; refine G_assign rfl rfl ?_)
    | (refine Is_bin ?_; first
      | refine G_lss_t rfl rfl (by omega) rfl ?_
      | refine G_lss_f rfl rfl (by omega) rfl ?_
      | refine G_lss rfl rfl rfl ?_
      | refine G_add rfl rfl rfl (by first | exact IntWalk.i64_in _ (by omega) | rfl) ?_
      | refine G_eql_t rfl rfl (by first | with_reducible rfl | assumption | decide +kernel | omega) rfl ?_
      | refine G_eql_f rfl rfl (by first | decide +kernel | omega | assumption) rfl ?_
      | refine G_eql rfl rfl rfl ?_
      | refine G_neq_f rfl rfl (by first | with_reducible rfl | assumption | decide +kernel | omega) rfl ?_
      | refine G_neq_t rfl rfl (by first | decide +kernel | omega | assumption) rfl ?_
      | refine G_neq rfl rfl rfl ?_
      | refine G_leq_t rfl rfl (by omega) rfl ?_
      | refine G_leq_f rfl rfl (by omega) rfl ?_
      | refine G_leq rfl rfl rfl ?_
      | refine G_gtr_t rfl rfl (by omega) rfl ?_
      | refine G_gtr_f rfl rfl (by omega) rfl ?_
      | refine G_gtr rfl rfl rfl ?_
      | refine G_geq_t rfl rfl (by omega) rfl ?_
      | refine G_geq_f rfl rfl (by omega) rfl ?_
      | refine G_geq rfl rfl rfl ?_
      | refine G_sub rfl rfl rfl (by first | exact IntWalk.i64_in _ (by omega) | rfl) ?_
      | refine G_mul rfl rfl rfl (by first | exact IntWalk.i64_in _ (by omega) | rfl) ?_
      | refine G_xor64 rfl rfl rfl ?_
      | refine G_mul64 rfl rfl rfl ?_
      | refine G_or64 rfl rfl rfl ?_
      | refine G_and64 rfl rfl rfl ?_
      | refine G_add64 rfl rfl rfl ?_
      | refine G_sub64 rfl rfl rfl ?_
      | refine G_shr64 rfl rfl rfl rfl ?_
      | refine G_shl64 rfl rfl rfl rfl ?_
      | refine G_eqlB rfl rfl rfl ?_
      | refine G_neqB rfl rfl rfl ?_)
    | (refine Is_load ?_; first
      | refine G_load rfl rfl rfl ?_
      | refine G_load_cell rfl (by first | assumption | (apply_assumption; done) | fail) rfl ?_)
    | (refine Is_store ?_; refine G_store rfl rfl rfl rfl rfl ?_)
    | (refine Is_builtin ?_; first
      | refine G_len rfl rfl ?_)
    | (refine Is_nilCheck ?_; refine G_nilCheck rfl rfl ?_)
    | (refine Is_convert ?_; first
      | refine G_u64_int rfl rfl ?_
      | refine G_to_u64 rfl rfl ?_
      | refine G_conv _ rfl rfl (by first | exact IntWalk.i64_in _ (by omega) | rfl) ?_)
    | (refine Is_fieldAddr ?_; refine G_fieldOff rfl rfl ?_)
    | (refine Is_indexAddr ?_; first
      | refine G_indexA rfl rfl (by first | decide | omega) rfl ?_
      | refine G_indexP rfl rfl (by first | assumption | omega) rfl ?_)
    | (refine Is_un ?_; refine G_not rfl rfl ?_)
    | (refine Is_makeFunc ?_; refine G_makeFunc rfl rfl rfl ?_)
    | (refine Is_extract ?_; refine G_extract rfl rfl rfl ?_)
    | (refine Is_guard ?_; first
      | refine G_guard_yes (by rw [hops.eq]; rfl) rfl (by simp) ?_
      | refine G_guard_no (by rw [hops.eq]; rfl) rfl rfl rfl ?_)
    | (refine Is_pick ?_; first
      | refine G_pick_t rfl rfl rfl ?_
      | refine G_pick_f rfl rfl rfl ?_)
    | refine GC_cond_t rfl ?_
    | refine GC_cond_f rfl ?_
    | refine GC_seq ?_
    | refine GC_region (fun ops hops => ?_)
    | (refine G_nil ?_; try clear hops; try clear ops)
    | refine At_then ?_
    | refine GC_skip ?_
    | refine GC_block ?_
    | refine GC_exit ?_
    | refine GC_ret ?_
    | refine At_then_exit ?_
    | refine At_then_ret ?_
    | refine At_block ?_
    | refine At_block_ret ?_
    | refine At_block_hit ?_
    | refine At_block_miss rfl ?_
    | refine At_round_exit ?_
    | refine At_round_ret ?_)
  (refine G_box rfl rfl ?_; intro b)
  rw [show Value.cells (.agg #[U z0, U z1, U z2]) = #[U z0, U z1, U z2] from rfl]
  repeat (first
    | (refine Is_move ?_; refine G_move rfl rfl ?_)
    | (refine Is_assign ?_; refine G_assign rfl rfl ?_)
    | (refine Is_bin ?_; first
      | refine G_lss_t rfl rfl (by omega) rfl ?_
      | refine G_lss_f rfl rfl (by omega) rfl ?_
      | refine G_lss rfl rfl rfl ?_
      | refine G_add rfl rfl rfl (by first | exact IntWalk.i64_in _ (by omega) | rfl) ?_
      | refine G_eql_t rfl rfl (by first | with_reducible rfl | assumption | decide +kernel | omega) rfl ?_
      | refine G_eql_f rfl rfl (by first | decide +kernel | omega | assumption) rfl ?_
      | refine G_eql rfl rfl rfl ?_
      | refine G_neq_f rfl rfl (by first | with_reducible rfl | assumption | decide +kernel | omega) rfl ?_
      | refine G_neq_t rfl rfl (by first | decide +kernel | omega | assumption) rfl ?_
      | refine G_neq rfl rfl rfl ?_
      | refine G_leq_t rfl rfl (by omega) rfl ?_
      | refine G_leq_f rfl rfl (by omega) rfl ?_
      | refine G_leq rfl rfl rfl ?_
      | refine G_gtr_t rfl rfl (by omega) rfl ?_
      | refine G_gtr_f rfl rfl (by omega) rfl ?_
      | refine G_gtr rfl rfl rfl ?_
      | refine G_geq_t rfl rfl (by omega) rfl ?_
      | refine G_geq_f rfl rfl (by omega) rfl ?_
      | refine G_geq rfl rfl rfl ?_
      | refine G_sub rfl rfl rfl (by first | exact IntWalk.i64_in _ (by omega) | rfl) ?_
      | refine G_mul rfl rfl rfl (by first | exact IntWalk.i64_in _ (by omega) | rfl) ?_
      | refine G_xor64 rfl rfl rfl ?_
      | refine G_mul64 rfl rfl rfl ?_
      | refine G_or64 rfl rfl rfl ?_
      | refine G_and64 rfl rfl rfl ?_
      | refine G_add64 rfl rfl rfl ?_
      | refine G_sub64 rfl rfl rfl ?_
      | refine G_shr64 rfl rfl rfl rfl ?_
      | refine G_shl64 rfl rfl rfl rfl ?_
      | refine G_eqlB rfl rfl rfl ?_
      | refine G_neqB rfl rfl rfl ?_)
    | (refine Is_load ?_; first
      | refine G_load rfl rfl rfl ?_
      | refine G_load_cell rfl (by first | assumption | (apply_assumption; done) | fail) rfl ?_)
    | (refine Is_store ?_; refine G_store rfl rfl rfl rfl rfl ?_)
    | (refine Is_builtin ?_; first
      | refine G_len rfl rfl ?_)
    | (refine Is_nilCheck ?_; refine G_nilCheck rfl rfl ?_)
    | (refine Is_convert ?_; first
      | refine G_u64_int rfl rfl ?_
      | refine G_to_u64 rfl rfl ?_
      | refine G_conv _ rfl rfl (by first | exact IntWalk.i64_in _ (by omega) | rfl) ?_)
    | (refine Is_fieldAddr ?_; refine G_fieldOff rfl rfl ?_)
    | (refine Is_indexAddr ?_; first
      | refine G_indexA rfl rfl (by first | decide | omega) rfl ?_
      | refine G_indexP rfl rfl (by first | assumption | omega) rfl ?_)
    | (refine Is_un ?_; refine G_not rfl rfl ?_)
    | (refine Is_makeFunc ?_; refine G_makeFunc rfl rfl rfl ?_)
    | (refine Is_extract ?_; refine G_extract rfl rfl rfl ?_)
    | (refine Is_guard ?_; first
      | refine G_guard_yes (by rw [hops.eq]; rfl) rfl (by simp) ?_
      | refine G_guard_no (by rw [hops.eq]; rfl) rfl rfl rfl ?_)
    | (refine Is_pick ?_; first
      | refine G_pick_t rfl rfl rfl ?_
      | refine G_pick_f rfl rfl rfl ?_)
    | refine GC_cond_t rfl ?_
    | refine GC_cond_f rfl ?_
    | refine GC_seq ?_
    | refine GC_region (fun ops hops => ?_)
    | (refine G_nil ?_; try clear hops; try clear ops)
    | refine At_then ?_
    | refine GC_skip ?_
    | refine GC_block ?_
    | refine GC_exit ?_
    | refine GC_ret ?_
    | refine At_then_exit ?_
    | refine At_then_ret ?_
    | refine At_block ?_
    | refine At_block_ret ?_
    | refine At_block_hit ?_
    | refine At_block_miss rfl ?_
    | refine At_round_exit ?_
    | refine At_round_ret ?_)
  refine G_call rfl (fun w1 _ => law_examples w1) rfl ?_
  by_cases h1 : 200 < l.length
  · repeat (first
    | (refine Is_move ?_; refine G_move rfl rfl ?_)
    | (refine Is_assign ?_; refine G_assign rfl rfl ?_)
    | (refine Is_bin ?_; first
      | refine G_lss_t rfl rfl (by omega) rfl ?_
      | refine G_lss_f rfl rfl (by omega) rfl ?_
      | refine G_lss rfl rfl rfl ?_
      | refine G_add rfl rfl rfl (by first | exact IntWalk.i64_in _ (by omega) | rfl) ?_
      | refine G_eql_t rfl rfl (by first | with_reducible rfl | assumption | decide +kernel | omega) rfl ?_
      | refine G_eql_f rfl rfl (by first | decide +kernel | omega | assumption) rfl ?_
      | refine G_eql rfl rfl rfl ?_
      | refine G_neq_f rfl rfl (by first | with_reducible rfl | assumption | decide +kernel | omega) rfl ?_
      | refine G_neq_t rfl rfl (by first | decide +kernel | omega | assumption) rfl ?_
      | refine G_neq rfl rfl rfl ?_
      | refine G_leq_t rfl rfl (by omega) rfl ?_
      | refine G_leq_f rfl rfl (by omega) rfl ?_
      | refine G_leq rfl rfl rfl ?_
      | refine G_gtr_t rfl rfl (by omega) rfl ?_
      | refine G_gtr_f rfl rfl (by omega) rfl ?_
      | refine G_gtr rfl rfl rfl ?_
      | refine G_geq_t rfl rfl (by omega) rfl ?_
      | refine G_geq_f rfl rfl (by omega) rfl ?_
      | refine G_geq rfl rfl rfl ?_
      | refine G_sub rfl rfl rfl (by first | exact IntWalk.i64_in _ (by omega) | rfl) ?_
      | refine G_mul rfl rfl rfl (by first | exact IntWalk.i64_in _ (by omega) | rfl) ?_
      | refine G_xor64 rfl rfl rfl ?_
      | refine G_mul64 rfl rfl rfl ?_
      | refine G_or64 rfl rfl rfl ?_
      | refine G_and64 rfl rfl rfl ?_
      | refine G_add64 rfl rfl rfl ?_
      | refine G_sub64 rfl rfl rfl ?_
      | refine G_shr64 rfl rfl rfl rfl ?_
      | refine G_shl64 rfl rfl rfl rfl ?_
      | refine G_eqlB rfl rfl rfl ?_
      | refine G_neqB rfl rfl rfl ?_)
    | (refine Is_load ?_; first
      | refine G_load rfl rfl rfl ?_
      | refine G_load_cell rfl (by first | assumption | (apply_assumption; done) | fail) rfl ?_)
    | (refine Is_store ?_; refine G_store rfl rfl rfl rfl rfl ?_)
    | (refine Is_builtin ?_; first
      | refine G_len rfl rfl ?_)
    | (refine Is_nilCheck ?_; refine G_nilCheck rfl rfl ?_)
    | (refine Is_convert ?_; first
      | refine G_u64_int rfl rfl ?_
      | refine G_to_u64 rfl rfl ?_
      | refine G_conv _ rfl rfl (by first | exact IntWalk.i64_in _ (by omega) | rfl) ?_)
    | (refine Is_fieldAddr ?_; refine G_fieldOff rfl rfl ?_)
    | (refine Is_indexAddr ?_; first
      | refine G_indexA rfl rfl (by first | decide | omega) rfl ?_
      | refine G_indexP rfl rfl (by first | assumption | omega) rfl ?_)
    | (refine Is_un ?_; refine G_not rfl rfl ?_)
    | (refine Is_makeFunc ?_; refine G_makeFunc rfl rfl rfl ?_)
    | (refine Is_extract ?_; refine G_extract rfl rfl rfl ?_)
    | (refine Is_guard ?_; first
      | refine G_guard_yes (by rw [hops.eq]; rfl) rfl (by simp) ?_
      | refine G_guard_no (by rw [hops.eq]; rfl) rfl rfl rfl ?_)
    | (refine Is_pick ?_; first
      | refine G_pick_t rfl rfl rfl ?_
      | refine G_pick_f rfl rfl rfl ?_)
    | refine GC_cond_t rfl ?_
    | refine GC_cond_f rfl ?_
    | refine GC_seq ?_
    | refine GC_region (fun ops hops => ?_)
    | (refine G_nil ?_; try clear hops; try clear ops)
    | refine At_then ?_
    | refine GC_skip ?_
    | refine GC_block ?_
    | refine GC_exit ?_
    | refine GC_ret ?_
    | refine At_then_exit ?_
    | refine At_then_ret ?_
    | refine At_block ?_
    | refine At_block_ret ?_
    | refine At_block_hit ?_
    | refine At_block_miss rfl ?_
    | refine At_round_exit ?_
    | refine At_round_ret ?_)
    exact ret_one rfl rfl fun w' h' => ⟨rfl, h'.drop (by simp)⟩
  by_cases h2 : 200 < bs.length
  · repeat (first
    | (refine Is_move ?_; refine G_move rfl rfl ?_)
    | (refine Is_assign ?_; refine G_assign rfl rfl ?_)
    | (refine Is_bin ?_; first
      | refine G_lss_t rfl rfl (by omega) rfl ?_
      | refine G_lss_f rfl rfl (by omega) rfl ?_
      | refine G_lss rfl rfl rfl ?_
      | refine G_add rfl rfl rfl (by first | exact IntWalk.i64_in _ (by omega) | rfl) ?_
      | refine G_eql_t rfl rfl (by first | with_reducible rfl | assumption | decide +kernel | omega) rfl ?_
      | refine G_eql_f rfl rfl (by first | decide +kernel | omega | assumption) rfl ?_
      | refine G_eql rfl rfl rfl ?_
      | refine G_neq_f rfl rfl (by first | with_reducible rfl | assumption | decide +kernel | omega) rfl ?_
      | refine G_neq_t rfl rfl (by first | decide +kernel | omega | assumption) rfl ?_
      | refine G_neq rfl rfl rfl ?_
      | refine G_leq_t rfl rfl (by omega) rfl ?_
      | refine G_leq_f rfl rfl (by omega) rfl ?_
      | refine G_leq rfl rfl rfl ?_
      | refine G_gtr_t rfl rfl (by omega) rfl ?_
      | refine G_gtr_f rfl rfl (by omega) rfl ?_
      | refine G_gtr rfl rfl rfl ?_
      | refine G_geq_t rfl rfl (by omega) rfl ?_
      | refine G_geq_f rfl rfl (by omega) rfl ?_
      | refine G_geq rfl rfl rfl ?_
      | refine G_sub rfl rfl rfl (by first | exact IntWalk.i64_in _ (by omega) | rfl) ?_
      | refine G_mul rfl rfl rfl (by first | exact IntWalk.i64_in _ (by omega) | rfl) ?_
      | refine G_xor64 rfl rfl rfl ?_
      | refine G_mul64 rfl rfl rfl ?_
      | refine G_or64 rfl rfl rfl ?_
      | refine G_and64 rfl rfl rfl ?_
      | refine G_add64 rfl rfl rfl ?_
      | refine G_sub64 rfl rfl rfl ?_
      | refine G_shr64 rfl rfl rfl rfl ?_
      | refine G_shl64 rfl rfl rfl rfl ?_
      | refine G_eqlB rfl rfl rfl ?_
      | refine G_neqB rfl rfl rfl ?_)
    | (refine Is_load ?_; first
      | refine G_load rfl rfl rfl ?_
      | refine G_load_cell rfl (by first | assumption | (apply_assumption; done) | fail) rfl ?_)
    | (refine Is_store ?_; refine G_store rfl rfl rfl rfl rfl ?_)
    | (refine Is_builtin ?_; first
      | refine G_len rfl rfl ?_)
    | (refine Is_nilCheck ?_; refine G_nilCheck rfl rfl ?_)
    | (refine Is_convert ?_; first
      | refine G_u64_int rfl rfl ?_
      | refine G_to_u64 rfl rfl ?_
      | refine G_conv _ rfl rfl (by first | exact IntWalk.i64_in _ (by omega) | rfl) ?_)
    | (refine Is_fieldAddr ?_; refine G_fieldOff rfl rfl ?_)
    | (refine Is_indexAddr ?_; first
      | refine G_indexA rfl rfl (by first | decide | omega) rfl ?_
      | refine G_indexP rfl rfl (by first | assumption | omega) rfl ?_)
    | (refine Is_un ?_; refine G_not rfl rfl ?_)
    | (refine Is_makeFunc ?_; refine G_makeFunc rfl rfl rfl ?_)
    | (refine Is_extract ?_; refine G_extract rfl rfl rfl ?_)
    | (refine Is_guard ?_; first
      | refine G_guard_yes (by rw [hops.eq]; rfl) rfl (by simp) ?_
      | refine G_guard_no (by rw [hops.eq]; rfl) rfl rfl rfl ?_)
    | (refine Is_pick ?_; first
      | refine G_pick_t rfl rfl rfl ?_
      | refine G_pick_f rfl rfl rfl ?_)
    | refine GC_cond_t rfl ?_
    | refine GC_cond_f rfl ?_
    | refine GC_seq ?_
    | refine GC_region (fun ops hops => ?_)
    | (refine G_nil ?_; try clear hops; try clear ops)
    | refine At_then ?_
    | refine GC_skip ?_
    | refine GC_block ?_
    | refine GC_exit ?_
    | refine GC_ret ?_
    | refine At_then_exit ?_
    | refine At_then_ret ?_
    | refine At_block ?_
    | refine At_block_ret ?_
    | refine At_block_hit ?_
    | refine At_block_miss rfl ?_
    | refine At_round_exit ?_
    | refine At_round_ret ?_)
    exact ret_one rfl rfl fun w' h' => ⟨rfl, h'.drop (by simp)⟩
  repeat (first
    | (refine Is_move ?_; refine G_move rfl rfl ?_)
    | (refine Is_assign ?_; refine G_assign rfl rfl ?_)
    | (refine Is_bin ?_; first
      | refine G_lss_t rfl rfl (by omega) rfl ?_
      | refine G_lss_f rfl rfl (by omega) rfl ?_
      | refine G_lss rfl rfl rfl ?_
      | refine G_add rfl rfl rfl (by first | exact IntWalk.i64_in _ (by omega) | rfl) ?_
      | refine G_eql_t rfl rfl (by first | with_reducible rfl | assumption | decide +kernel | omega) rfl ?_
      | refine G_eql_f rfl rfl (by first | decide +kernel | omega | assumption) rfl ?_
      | refine G_eql rfl rfl rfl ?_
      | refine G_neq_f rfl rfl (by first | with_reducible rfl | assumption | decide +kernel | omega) rfl ?_
      | refine G_neq_t rfl rfl (by first | decide +kernel | omega | assumption) rfl ?_
      | refine G_neq rfl rfl rfl ?_
      | refine G_leq_t rfl rfl (by omega) rfl ?_
      | refine G_leq_f rfl rfl (by omega) rfl ?_
      | refine G_leq rfl rfl rfl ?_
      | refine G_gtr_t rfl rfl (by omega) rfl ?_
      | refine G_gtr_f rfl rfl (by omega) rfl ?_
      | refine G_gtr rfl rfl rfl ?_
      | refine G_geq_t rfl rfl (by omega) rfl ?_
      | refine G_geq_f rfl rfl (by omega) rfl ?_
      | refine G_geq rfl rfl rfl ?_
      | refine G_sub rfl rfl rfl (by first | exact IntWalk.i64_in _ (by omega) | rfl) ?_
      | refine G_mul rfl rfl rfl (by first | exact IntWalk.i64_in _ (by omega) | rfl) ?_
      | refine G_xor64 rfl rfl rfl ?_
      | refine G_mul64 rfl rfl rfl ?_
      | refine G_or64 rfl rfl rfl ?_
      | refine G_and64 rfl rfl rfl ?_
      | refine G_add64 rfl rfl rfl ?_
      | refine G_sub64 rfl rfl rfl ?_
      | refine G_shr64 rfl rfl rfl rfl ?_
      | refine G_shl64 rfl rfl rfl rfl ?_
      | refine G_eqlB rfl rfl rfl ?_
      | refine G_neqB rfl rfl rfl ?_)
    | (refine Is_load ?_; first
      | refine G_load rfl rfl rfl ?_
      | refine G_load_cell rfl (by first | assumption | (apply_assumption; done) | fail) rfl ?_)
    | (refine Is_store ?_; refine G_store rfl rfl rfl rfl rfl ?_)
    | (refine Is_builtin ?_; first
      | refine G_len rfl rfl ?_)
    | (refine Is_nilCheck ?_; refine G_nilCheck rfl rfl ?_)
    | (refine Is_convert ?_; first
      | refine G_u64_int rfl rfl ?_
      | refine G_to_u64 rfl rfl ?_
      | refine G_conv _ rfl rfl (by first | exact IntWalk.i64_in _ (by omega) | rfl) ?_)
    | (refine Is_fieldAddr ?_; refine G_fieldOff rfl rfl ?_)
    | (refine Is_indexAddr ?_; first
      | refine G_indexA rfl rfl (by first | decide | omega) rfl ?_
      | refine G_indexP rfl rfl (by first | assumption | omega) rfl ?_)
    | (refine Is_un ?_; refine G_not rfl rfl ?_)
    | (refine Is_makeFunc ?_; refine G_makeFunc rfl rfl rfl ?_)
    | (refine Is_extract ?_; refine G_extract rfl rfl rfl ?_)
    | (refine Is_guard ?_; first
      | refine G_guard_yes (by rw [hops.eq]; rfl) rfl (by simp) ?_
      | refine G_guard_no (by rw [hops.eq]; rfl) rfl rfl rfl ?_)
    | (refine Is_pick ?_; first
      | refine G_pick_t rfl rfl rfl ?_
      | refine G_pick_f rfl rfl rfl ?_)
    | refine GC_cond_t rfl ?_
    | refine GC_cond_f rfl ?_
    | refine GC_seq ?_
    | refine GC_region (fun ops hops => ?_)
    | (refine G_nil ?_; try clear hops; try clear ops)
    | refine At_then ?_
    | refine GC_skip ?_
    | refine GC_block ?_
    | refine GC_exit ?_
    | refine GC_ret ?_
    | refine At_then_exit ?_
    | refine At_then_ret ?_
    | refine At_block ?_
    | refine At_block_ret ?_
    | refine At_block_hit ?_
    | refine At_block_miss rfl ?_
    | refine At_round_exit ?_
    | refine At_round_ret ?_)
  (refine G_buildSlice   rfl rfl rfl rfl rfl rfl ?_; intro g)
  refine G_own (by repeat (first | exact Take.here | apply Take.there)) (sz := 1) (n := 0) rfl (by simp [maxLen]) ?_
  repeat (first
    | (refine Is_move ?_; refine G_move rfl rfl ?_)
    | (refine Is_assign ?_; refine G_assign rfl rfl ?_)
    | (refine Is_bin ?_; first
      | refine G_lss_t rfl rfl (by omega) rfl ?_
      | refine G_lss_f rfl rfl (by omega) rfl ?_
      | refine G_lss rfl rfl rfl ?_
      | refine G_add rfl rfl rfl (by first | exact IntWalk.i64_in _ (by omega) | rfl) ?_
      | refine G_eql_t rfl rfl (by first | with_reducible rfl | assumption | decide +kernel | omega) rfl ?_
      | refine G_eql_f rfl rfl (by first | decide +kernel | omega | assumption) rfl ?_
      | refine G_eql rfl rfl rfl ?_
      | refine G_neq_f rfl rfl (by first | with_reducible rfl | assumption | decide +kernel | omega) rfl ?_
      | refine G_neq_t rfl rfl (by first | decide +kernel | omega | assumption) rfl ?_
      | refine G_neq rfl rfl rfl ?_
      | refine G_leq_t rfl rfl (by omega) rfl ?_
      | refine G_leq_f rfl rfl (by omega) rfl ?_
      | refine G_leq rfl rfl rfl ?_
      | refine G_gtr_t rfl rfl (by omega) rfl ?_
      | refine G_gtr_f rfl rfl (by omega) rfl ?_
      | refine G_gtr rfl rfl rfl ?_
      | refine G_geq_t rfl rfl (by omega) rfl ?_
      | refine G_geq_f rfl rfl (by omega) rfl ?_
      | refine G_geq rfl rfl rfl ?_
      | refine G_sub rfl rfl rfl (by first | exact IntWalk.i64_in _ (by omega) | rfl) ?_
      | refine G_mul rfl rfl rfl (by first | exact IntWalk.i64_in _ (by omega) | rfl) ?_
      | refine G_xor64 rfl rfl rfl ?_
      | refine G_mul64 rfl rfl rfl ?_
      | refine G_or64 rfl rfl rfl ?_
      | refine G_and64 rfl rfl rfl ?_
      | refine G_add64 rfl rfl rfl ?_
      | refine G_sub64 rfl rfl rfl ?_
      | refine G_shr64 rfl rfl rfl rfl ?_
      | refine G_shl64 rfl rfl rfl rfl ?_
      | refine G_eqlB rfl rfl rfl ?_
      | refine G_neqB rfl rfl rfl ?_)
    | (refine Is_load ?_; first
      | refine G_load rfl rfl rfl ?_
      | refine G_load_cell rfl (by first | assumption | (apply_assumption; done) | fail) rfl ?_)
    | (refine Is_store ?_; refine G_store rfl rfl rfl rfl rfl ?_)
    | (refine Is_builtin ?_; first
      | refine G_len rfl rfl ?_)
    | (refine Is_nilCheck ?_; refine G_nilCheck rfl rfl ?_)
    | (refine Is_convert ?_; first
      | refine G_u64_int rfl rfl ?_
      | refine G_to_u64 rfl rfl ?_
      | refine G_conv _ rfl rfl (by first | exact IntWalk.i64_in _ (by omega) | rfl) ?_)
    | (refine Is_fieldAddr ?_; refine G_fieldOff rfl rfl ?_)
    | (refine Is_indexAddr ?_; first
      | refine G_indexA rfl rfl (by first | decide | omega) rfl ?_
      | refine G_indexP rfl rfl (by first | assumption | omega) rfl ?_)
    | (refine Is_un ?_; refine G_not rfl rfl ?_)
    | (refine Is_makeFunc ?_; refine G_makeFunc rfl rfl rfl ?_)
    | (refine Is_extract ?_; refine G_extract rfl rfl rfl ?_)
    | (refine Is_guard ?_; first
      | refine G_guard_yes (by rw [hops.eq]; rfl) rfl (by simp) ?_
      | refine G_guard_no (by rw [hops.eq]; rfl) rfl rfl rfl ?_)
    | (refine Is_pick ?_; first
      | refine G_pick_t rfl rfl rfl ?_
      | refine G_pick_f rfl rfl rfl ?_)
    | refine GC_cond_t rfl ?_
    | refine GC_cond_f rfl ?_
    | refine GC_seq ?_
    | refine GC_region (fun ops hops => ?_)
    | (refine G_nil ?_; try clear hops; try clear ops)
    | refine At_then ?_
    | refine GC_skip ?_
    | refine GC_block ?_
    | refine GC_exit ?_
    | refine GC_ret ?_
    | refine At_then_exit ?_
    | refine At_then_ret ?_
    | refine At_block ?_
    | refine At_block_ret ?_
    | refine At_block_hit ?_
    | refine At_block_miss rfl ?_
    | refine At_round_exit ?_
    | refine At_round_ret ?_)
  refine GC_loop' (X := Nat × Value) (fun y => y.1 ≤ l.length)
    (fun y => [(0, .slice A l.length c), (1, .slice A' bs.length c'), (5, .pointer (some ⟨b, 0, none⟩)), (7, .bool true), (8, y.2), (9, I y.1)])
    (fun y => [.own y.2 24 1 y.1 (((dx z0 z1 z2 l).take y.1).map U), .box b (.cells #[U z0, U z1, U z2] 25)])
    (fun y => l.length - y.1) (0, .slice (some ⟨g, 0, none⟩) 0 0) (Nat.zero_le _) ⟨rfl, rfl, rfl, rfl, rfl, rfl, trivial⟩ (fun w h => h) ?_
  intro y hk
  obtain ⟨k, a⟩ := y
  simp only at hk ⊢
  by_cases hlt : k < l.length
  · obtain ⟨ad, rfl⟩ : ∃ ad, A = some ad := by
      obtain ⟨ad, e2, _⟩ := q4 (by simp; omega)
      exact ⟨ad, e2⟩
    have hc1 := hL.cell k hlt
    have hk3 : k % 3 < 3 := Nat.mod_lt _ (by omega)
    repeat (first
    | (refine Is_move ?_; refine G_move rfl rfl ?_)
    | (refine Is_assign ?_; refine G_assign rfl rfl ?_)
    | (refine Is_bin ?_; first
      | refine G_lss_t rfl rfl (by omega) rfl ?_
      | refine G_lss_f rfl rfl (by omega) rfl ?_
      | refine G_lss rfl rfl rfl ?_
      | refine G_add rfl rfl rfl (by first | exact IntWalk.i64_in _ (by omega) | rfl) ?_
      | refine G_eql_t rfl rfl (by first | with_reducible rfl | assumption | decide +kernel | omega) rfl ?_
      | refine G_eql_f rfl rfl (by first | decide +kernel | omega | assumption) rfl ?_
      | refine G_eql rfl rfl rfl ?_
      | refine G_neq_f rfl rfl (by first | with_reducible rfl | assumption | decide +kernel | omega) rfl ?_
      | refine G_neq_t rfl rfl (by first | decide +kernel | omega | assumption) rfl ?_
      | refine G_neq rfl rfl rfl ?_
      | refine G_leq_t rfl rfl (by omega) rfl ?_
      | refine G_leq_f rfl rfl (by omega) rfl ?_
      | refine G_leq rfl rfl rfl ?_
      | refine G_gtr_t rfl rfl (by omega) rfl ?_
      | refine G_gtr_f rfl rfl (by omega) rfl ?_
      | refine G_gtr rfl rfl rfl ?_
      | refine G_geq_t rfl rfl (by omega) rfl ?_
      | refine G_geq_f rfl rfl (by omega) rfl ?_
      | refine G_geq rfl rfl rfl ?_
      | refine G_sub rfl rfl rfl (by first | exact IntWalk.i64_in _ (by omega) | rfl) ?_
      | refine G_mul rfl rfl rfl (by first | exact IntWalk.i64_in _ (by omega) | rfl) ?_
      | refine G_xor64 rfl rfl rfl ?_
      | refine G_mul64 rfl rfl rfl ?_
      | refine G_or64 rfl rfl rfl ?_
      | refine G_and64 rfl rfl rfl ?_
      | refine G_add64 rfl rfl rfl ?_
      | refine G_sub64 rfl rfl rfl ?_
      | refine G_shr64 rfl rfl rfl rfl ?_
      | refine G_shl64 rfl rfl rfl rfl ?_
      | refine G_eqlB rfl rfl rfl ?_
      | refine G_neqB rfl rfl rfl ?_)
    | (refine Is_load ?_; first
      | refine G_load rfl rfl rfl ?_
      | refine G_load_cell rfl (by first | assumption | (apply_assumption; done) | fail) rfl ?_)
    | (refine Is_store ?_; refine G_store rfl rfl rfl rfl rfl ?_)
    | (refine Is_builtin ?_; first
      | refine G_len rfl rfl ?_)
    | (refine Is_nilCheck ?_; refine G_nilCheck rfl rfl ?_)
    | (refine Is_convert ?_; first
      | refine G_u64_int rfl rfl ?_
      | refine G_to_u64 rfl rfl ?_
      | refine G_conv _ rfl rfl (by first | exact IntWalk.i64_in _ (by omega) | rfl) ?_)
    | (refine Is_fieldAddr ?_; refine G_fieldOff rfl rfl ?_)
    | (refine Is_indexAddr ?_; first
      | refine G_indexA rfl rfl (by first | decide | omega) rfl ?_
      | refine G_indexP rfl rfl (by first | assumption | omega) rfl ?_)
    | (refine Is_un ?_; refine G_not rfl rfl ?_)
    | (refine Is_makeFunc ?_; refine G_makeFunc rfl rfl rfl ?_)
    | (refine Is_extract ?_; refine G_extract rfl rfl rfl ?_)
    | (refine Is_guard ?_; first
      | refine G_guard_yes (by rw [hops.eq]; rfl) rfl (by simp) ?_
      | refine G_guard_no (by rw [hops.eq]; rfl) rfl rfl rfl ?_)
    | (refine Is_pick ?_; first
      | refine G_pick_t rfl rfl rfl ?_
      | refine G_pick_f rfl rfl rfl ?_)
    | refine GC_cond_t rfl ?_
    | refine GC_cond_f rfl ?_
    | refine GC_seq ?_
    | refine GC_region (fun ops hops => ?_)
    | (refine G_nil ?_; try clear hops; try clear ops)
    | refine At_then ?_
    | refine GC_skip ?_
    | refine GC_block ?_
    | refine GC_exit ?_
    | refine GC_ret ?_
    | refine At_then_exit ?_
    | refine At_then_ret ?_
    | refine At_block ?_
    | refine At_block_ret ?_
    | refine At_block_hit ?_
    | refine At_block_miss rfl ?_
    | refine At_round_exit ?_
    | refine At_round_ret ?_)
    refine GC_draw [0, 1, 2, 3, 4, 5, 6, 7, 8, 9, 10, 11] [11] 12 rfl (by kernel_rfl) (fun ops hops => ?_)
    repeat
      apply DR_x rfl rfl rfl
      (· intro mm
         (repeat (first
    | (refine Is_move ?_; refine G_move rfl rfl ?_)
    | (refine Is_assign ?_; refine G_assign rfl rfl ?_)
    | (refine Is_bin ?_; first
      | refine G_lss_t rfl rfl (by omega) rfl ?_
      | refine G_lss_f rfl rfl (by omega) rfl ?_
      | refine G_lss rfl rfl rfl ?_
      | refine G_add rfl rfl rfl (by first | exact IntWalk.i64_in _ (by omega) | rfl) ?_
      | refine G_eql_t rfl rfl (by first | with_reducible rfl | assumption | decide +kernel | omega) rfl ?_
      | refine G_eql_f rfl rfl (by first | decide +kernel | omega | assumption) rfl ?_
      | refine G_eql rfl rfl rfl ?_
      | refine G_neq_f rfl rfl (by first | with_reducible rfl | assumption | decide +kernel | omega) rfl ?_
      | refine G_neq_t rfl rfl (by first | decide +kernel | omega | assumption) rfl ?_
      | refine G_neq rfl rfl rfl ?_
      | refine G_leq_t rfl rfl (by omega) rfl ?_
      | refine G_leq_f rfl rfl (by omega) rfl ?_
      | refine G_leq rfl rfl rfl ?_
      | refine G_gtr_t rfl rfl (by omega) rfl ?_
      | refine G_gtr_f rfl rfl (by omega) rfl ?_
      | refine G_gtr rfl rfl rfl ?_
      | refine G_geq_t rfl rfl (by omega) rfl ?_
      | refine G_geq_f rfl rfl (by omega) rfl ?_
      | refine G_geq rfl rfl rfl ?_
      | refine G_sub rfl rfl rfl (by first | exact IntWalk.i64_in _ (by omega) | rfl) ?_
      | refine G_mul rfl rfl rfl (by first | exact IntWalk.i64_in _ (by omega) | rfl) ?_
      | refine G_xor64 rfl rfl rfl ?_
      | refine G_mul64 rfl rfl rfl ?_
      | refine G_or64 rfl rfl rfl ?_
      | refine G_and64 rfl rfl rfl ?_
      | refine G_add64 rfl rfl rfl ?_
      | refine G_sub64 rfl rfl rfl ?_
      | refine G_shr64 rfl rfl rfl rfl ?_
      | refine G_shl64 rfl rfl rfl rfl ?_
      | refine G_eqlB rfl rfl rfl ?_
      | refine G_neqB rfl rfl rfl ?_)
    | (refine Is_load ?_; first
      | refine G_load rfl rfl rfl ?_
      | refine G_load_cell rfl (by first | assumption | (apply_assumption; done) | fail) rfl ?_)
    | (refine Is_store ?_; refine G_store rfl rfl rfl rfl rfl ?_)
    | (refine Is_builtin ?_; first
      | refine G_len rfl rfl ?_)
    | (refine Is_nilCheck ?_; refine G_nilCheck rfl rfl ?_)
    | (refine Is_convert ?_; first
      | refine G_u64_int rfl rfl ?_
      | refine G_to_u64 rfl rfl ?_
      | refine G_conv _ rfl rfl (by first | exact IntWalk.i64_in _ (by omega) | rfl) ?_)
    | (refine Is_fieldAddr ?_; refine G_fieldOff rfl rfl ?_)
    | (refine Is_indexAddr ?_; first
      | refine G_indexA rfl rfl (by first | decide | omega) rfl ?_
      | refine G_indexP rfl rfl (by first | assumption | omega) rfl ?_)
    | (refine Is_un ?_; refine G_not rfl rfl ?_)
    | (refine Is_makeFunc ?_; refine G_makeFunc rfl rfl rfl ?_)
    | (refine Is_extract ?_; refine G_extract rfl rfl rfl ?_)
    | (refine Is_guard ?_; first
      | refine G_guard_yes (by rw [hops.eq]; rfl) rfl (by simp) ?_
      | refine G_guard_no (by rw [hops.eq]; rfl) rfl rfl rfl ?_)
    | (refine Is_pick ?_; first
      | refine G_pick_t rfl rfl rfl ?_
      | refine G_pick_f rfl rfl rfl ?_)
    | refine GC_cond_t rfl ?_
    | refine GC_cond_f rfl ?_
    | refine GC_seq ?_
    | refine GC_region (fun ops hops => ?_)
    | (refine G_nil ?_; try clear hops; try clear ops)
    | refine At_then ?_
    | refine GC_skip ?_
    | refine GC_block ?_
    | refine GC_exit ?_
    | refine GC_ret ?_
    | refine At_then_exit ?_
    | refine At_then_ret ?_
    | refine At_block ?_
    | refine At_block_ret ?_
    | refine At_block_hit ?_
    | refine At_block_miss rfl ?_
    | refine At_round_exit ?_
    | refine At_round_ret ?_))
         exact X_done rfl (List.Sublist.refl _))
    apply DR_x rfl rfl rfl
    · intro mm
      try refine G_guard_yes (by rw [hops.eq]; rfl) rfl (by simp) ?_
      refine G_rem rfl rfl (by omega) rfl (r := ((k % 3 : Nat) : Int)) (by rw [Int.tmod_eq_emod_of_nonneg (by omega)]; omega) ?_
      refine G_nil ?_
      (refine X_done rfl ?_; first | exact List.Sublist.refl _ | exact List.sublist_append_right _ _ | exact List.Sublist.cons _ (List.Sublist.refl _))
    repeat
      apply DR_x rfl rfl rfl
      (· intro mm
         (repeat (first
    | (refine Is_move ?_; refine G_move rfl rfl ?_)
    | (refine Is_assign ?_; refine G_assign rfl rfl ?_)
    | (refine Is_bin ?_; first
      | refine G_lss_t rfl rfl (by omega) rfl ?_
      | refine G_lss_f rfl rfl (by omega) rfl ?_
      | refine G_lss rfl rfl rfl ?_
      | refine G_add rfl rfl rfl (by first | exact IntWalk.i64_in _ (by omega) | rfl) ?_
      | refine G_eql_t rfl rfl (by first | with_reducible rfl | assumption | decide +kernel | omega) rfl ?_
      | refine G_eql_f rfl rfl (by first | decide +kernel | omega | assumption) rfl ?_
      | refine G_eql rfl rfl rfl ?_
      | refine G_neq_f rfl rfl (by first | with_reducible rfl | assumption | decide +kernel | omega) rfl ?_
      | refine G_neq_t rfl rfl (by first | decide +kernel | omega | assumption) rfl ?_
      | refine G_neq rfl rfl rfl ?_
      | refine G_leq_t rfl rfl (by omega) rfl ?_
      | refine G_leq_f rfl rfl (by omega) rfl ?_
      | refine G_leq rfl rfl rfl ?_
      | refine G_gtr_t rfl rfl (by omega) rfl ?_
      | refine G_gtr_f rfl rfl (by omega) rfl ?_
      | refine G_gtr rfl rfl rfl ?_
      | refine G_geq_t rfl rfl (by omega) rfl ?_
      | refine G_geq_f rfl rfl (by omega) rfl ?_
      | refine G_geq rfl rfl rfl ?_
      | refine G_sub rfl rfl rfl (by first | exact IntWalk.i64_in _ (by omega) | rfl) ?_
      | refine G_mul rfl rfl rfl (by first | exact IntWalk.i64_in _ (by omega) | rfl) ?_
      | refine G_xor64 rfl rfl rfl ?_
      | refine G_mul64 rfl rfl rfl ?_
      | refine G_or64 rfl rfl rfl ?_
      | refine G_and64 rfl rfl rfl ?_
      | refine G_add64 rfl rfl rfl ?_
      | refine G_sub64 rfl rfl rfl ?_
      | refine G_shr64 rfl rfl rfl rfl ?_
      | refine G_shl64 rfl rfl rfl rfl ?_
      | refine G_eqlB rfl rfl rfl ?_
      | refine G_neqB rfl rfl rfl ?_)
    | (refine Is_load ?_; first
      | refine G_load rfl rfl rfl ?_
      | refine G_load_cell rfl (by first | assumption | (apply_assumption; done) | fail) rfl ?_)
    | (refine Is_store ?_; refine G_store rfl rfl rfl rfl rfl ?_)
    | (refine Is_builtin ?_; first
      | refine G_len rfl rfl ?_)
    | (refine Is_nilCheck ?_; refine G_nilCheck rfl rfl ?_)
    | (refine Is_convert ?_; first
      | refine G_u64_int rfl rfl ?_
      | refine G_to_u64 rfl rfl ?_
      | refine G_conv _ rfl rfl (by first | exact IntWalk.i64_in _ (by omega) | rfl) ?_)
    | (refine Is_fieldAddr ?_; refine G_fieldOff rfl rfl ?_)
    | (refine Is_indexAddr ?_; first
      | refine G_indexA rfl rfl (by first | decide | omega) rfl ?_
      | refine G_indexP rfl rfl (by first | assumption | omega) rfl ?_)
    | (refine Is_un ?_; refine G_not rfl rfl ?_)
    | (refine Is_makeFunc ?_; refine G_makeFunc rfl rfl rfl ?_)
    | (refine Is_extract ?_; refine G_extract rfl rfl rfl ?_)
    | (refine Is_guard ?_; first
      | refine G_guard_yes (by rw [hops.eq]; rfl) rfl (by simp) ?_
      | refine G_guard_no (by rw [hops.eq]; rfl) rfl rfl rfl ?_)
    | (refine Is_pick ?_; first
      | refine G_pick_t rfl rfl rfl ?_
      | refine G_pick_f rfl rfl rfl ?_)
    | refine GC_cond_t rfl ?_
    | refine GC_cond_f rfl ?_
    | refine GC_seq ?_
    | refine GC_region (fun ops hops => ?_)
    | (refine G_nil ?_; try clear hops; try clear ops)
    | refine At_then ?_
    | refine GC_skip ?_
    | refine GC_block ?_
    | refine GC_exit ?_
    | refine GC_ret ?_
    | refine At_then_exit ?_
    | refine At_then_ret ?_
    | refine At_block ?_
    | refine At_block_ret ?_
    | refine At_block_hit ?_
    | refine At_block_miss rfl ?_
    | refine At_round_exit ?_
    | refine At_round_ret ?_))
         exact X_done rfl (List.Sublist.refl _))
    apply DR_x rfl rfl rfl
    · intro mm
      try refine G_guard_yes (by rw [hops.eq]; rfl) rfl (by simp) ?_
      refine G_load (v := U (zf z0 z1 z2 (k % 3))) rfl (zf_at z0 z1 z2 (k % 3) hk3) rfl ?_
      refine G_nil ?_
      (refine X_done rfl ?_; first | exact List.Sublist.refl _ | exact List.sublist_append_right _ _ | exact List.Sublist.cons _ (List.Sublist.refl _))
    repeat
      apply DR_x rfl rfl rfl
      (· intro mm
         (repeat (first
    | (refine Is_move ?_; refine G_move rfl rfl ?_)
    | (refine Is_assign ?_; refine G_assign rfl rfl ?_)
    | (refine Is_bin ?_; first
      | refine G_lss_t rfl rfl (by omega) rfl ?_
      | refine G_lss_f rfl rfl (by omega) rfl ?_
      | refine G_lss rfl rfl rfl ?_
      | refine G_add rfl rfl rfl (by first | exact IntWalk.i64_in _ (by omega) | rfl) ?_
      | refine G_eql_t rfl rfl (by first | with_reducible rfl | assumption | decide +kernel | omega) rfl ?_
      | refine G_eql_f rfl rfl (by first | decide +kernel | omega | assumption) rfl ?_
      | refine G_eql rfl rfl rfl ?_
      | refine G_neq_f rfl rfl (by first | with_reducible rfl | assumption | decide +kernel | omega) rfl ?_
      | refine G_neq_t rfl rfl (by first | decide +kernel | omega | assumption) rfl ?_
      | refine G_neq rfl rfl rfl ?_
      | refine G_leq_t rfl rfl (by omega) rfl ?_
      | refine G_leq_f rfl rfl (by omega) rfl ?_
      | refine G_leq rfl rfl rfl ?_
      | refine G_gtr_t rfl rfl (by omega) rfl ?_
      | refine G_gtr_f rfl rfl (by omega) rfl ?_
      | refine G_gtr rfl rfl rfl ?_
      | refine G_geq_t rfl rfl (by omega) rfl ?_
      | refine G_geq_f rfl rfl (by omega) rfl ?_
      | refine G_geq rfl rfl rfl ?_
      | refine G_sub rfl rfl rfl (by first | exact IntWalk.i64_in _ (by omega) | rfl) ?_
      | refine G_mul rfl rfl rfl (by first | exact IntWalk.i64_in _ (by omega) | rfl) ?_
      | refine G_xor64 rfl rfl rfl ?_
      | refine G_mul64 rfl rfl rfl ?_
      | refine G_or64 rfl rfl rfl ?_
      | refine G_and64 rfl rfl rfl ?_
      | refine G_add64 rfl rfl rfl ?_
      | refine G_sub64 rfl rfl rfl ?_
      | refine G_shr64 rfl rfl rfl rfl ?_
      | refine G_shl64 rfl rfl rfl rfl ?_
      | refine G_eqlB rfl rfl rfl ?_
      | refine G_neqB rfl rfl rfl ?_)
    | (refine Is_load ?_; first
      | refine G_load rfl rfl rfl ?_
      | refine G_load_cell rfl (by first | assumption | (apply_assumption; done) | fail) rfl ?_)
    | (refine Is_store ?_; refine G_store rfl rfl rfl rfl rfl ?_)
    | (refine Is_builtin ?_; first
      | refine G_len rfl rfl ?_)
    | (refine Is_nilCheck ?_; refine G_nilCheck rfl rfl ?_)
    | (refine Is_convert ?_; first
      | refine G_u64_int rfl rfl ?_
      | refine G_to_u64 rfl rfl ?_
      | refine G_conv _ rfl rfl (by first | exact IntWalk.i64_in _ (by omega) | rfl) ?_)
    | (refine Is_fieldAddr ?_; refine G_fieldOff rfl rfl ?_)
    | (refine Is_indexAddr ?_; first
      | refine G_indexA rfl rfl (by first | decide | omega) rfl ?_
      | refine G_indexP rfl rfl (by first | assumption | omega) rfl ?_)
    | (refine Is_un ?_; refine G_not rfl rfl ?_)
    | (refine Is_makeFunc ?_; refine G_makeFunc rfl rfl rfl ?_)
    | (refine Is_extract ?_; refine G_extract rfl rfl rfl ?_)
    | (refine Is_guard ?_; first
      | refine G_guard_yes (by rw [hops.eq]; rfl) rfl (by simp) ?_
      | refine G_guard_no (by rw [hops.eq]; rfl) rfl rfl rfl ?_)
    | (refine Is_pick ?_; first
      | refine G_pick_t rfl rfl rfl ?_
      | refine G_pick_f rfl rfl rfl ?_)
    | refine GC_cond_t rfl ?_
    | refine GC_cond_f rfl ?_
    | refine GC_seq ?_
    | refine GC_region (fun ops hops => ?_)
    | (refine G_nil ?_; try clear hops; try clear ops)
    | refine At_then ?_
    | refine GC_skip ?_
    | refine GC_block ?_
    | refine GC_exit ?_
    | refine GC_ret ?_
    | refine At_then_exit ?_
    | refine At_then_ret ?_
    | refine At_block ?_
    | refine At_block_ret ?_
    | refine At_block_hit ?_
    | refine At_block_miss rfl ?_
    | refine At_round_exit ?_
    | refine At_round_ret ?_))
         exact X_done rfl (List.Sublist.refl _))
    apply DR_c rfl rfl rfl
    · (refine G_buildSlice   rfl rfl rfl rfl rfl rfl ?_; intro g2)
      repeat (first
    | (refine Is_move ?_; refine G_move rfl rfl ?_)
    | (refine Is_assign ?_; refine G_assign rfl rfl ?_)
    | (refine Is_bin ?_; first
      | refine G_lss_t rfl rfl (by omega) rfl ?_
      | refine G_lss_f rfl rfl (by omega) rfl ?_
      | refine G_lss rfl rfl rfl ?_
      | refine G_add rfl rfl rfl (by first | exact IntWalk.i64_in _ (by omega) | rfl) ?_
      | refine G_eql_t rfl rfl (by first | with_reducible rfl | assumption | decide +kernel | omega) rfl ?_
      | refine G_eql_f rfl rfl (by first | decide +kernel | omega | assumption) rfl ?_
      | refine G_eql rfl rfl rfl ?_
      | refine G_neq_f rfl rfl (by first | with_reducible rfl | assumption | decide +kernel | omega) rfl ?_
      | refine G_neq_t rfl rfl (by first | decide +kernel | omega | assumption) rfl ?_
      | refine G_neq rfl rfl rfl ?_
      | refine G_leq_t rfl rfl (by omega) rfl ?_
      | refine G_leq_f rfl rfl (by omega) rfl ?_
      | refine G_leq rfl rfl rfl ?_
      | refine G_gtr_t rfl rfl (by omega) rfl ?_
      | refine G_gtr_f rfl rfl (by omega) rfl ?_
      | refine G_gtr rfl rfl rfl ?_
      | refine G_geq_t rfl rfl (by omega) rfl ?_
      | refine G_geq_f rfl rfl (by omega) rfl ?_
      | refine G_geq rfl rfl rfl ?_
      | refine G_sub rfl rfl rfl (by first | exact IntWalk.i64_in _ (by omega) | rfl) ?_
      | refine G_mul rfl rfl rfl (by first | exact IntWalk.i64_in _ (by omega) | rfl) ?_
      | refine G_xor64 rfl rfl rfl ?_
      | refine G_mul64 rfl rfl rfl ?_
      | refine G_or64 rfl rfl rfl ?_
      | refine G_and64 rfl rfl rfl ?_
      | refine G_add64 rfl rfl rfl ?_
      | refine G_sub64 rfl rfl rfl ?_
      | refine G_shr64 rfl rfl rfl rfl ?_
      | refine G_shl64 rfl rfl rfl rfl ?_
      | refine G_eqlB rfl rfl rfl ?_
      | refine G_neqB rfl rfl rfl ?_)
    | (refine Is_load ?_; first
      | refine G_load rfl rfl rfl ?_
      | refine G_load_cell rfl (by first | assumption | (apply_assumption; done) | fail) rfl ?_)
    | (refine Is_store ?_; refine G_store rfl rfl rfl rfl rfl ?_)
    | (refine Is_builtin ?_; first
      | refine G_len rfl rfl ?_)
    | (refine Is_nilCheck ?_; refine G_nilCheck rfl rfl ?_)
    | (refine Is_convert ?_; first
      | refine G_u64_int rfl rfl ?_
      | refine G_to_u64 rfl rfl ?_
      | refine G_conv _ rfl rfl (by first | exact IntWalk.i64_in _ (by omega) | rfl) ?_)
    | (refine Is_fieldAddr ?_; refine G_fieldOff rfl rfl ?_)
    | (refine Is_indexAddr ?_; first
      | refine G_indexA rfl rfl (by first | decide | omega) rfl ?_
      | refine G_indexP rfl rfl (by first | assumption | omega) rfl ?_)
    | (refine Is_un ?_; refine G_not rfl rfl ?_)
    | (refine Is_makeFunc ?_; refine G_makeFunc rfl rfl rfl ?_)
    | (refine Is_extract ?_; refine G_extract rfl rfl rfl ?_)
    | (refine Is_guard ?_; first
      | refine G_guard_yes (by rw [hops.eq]; rfl) rfl (by simp) ?_
      | refine G_guard_no (by rw [hops.eq]; rfl) rfl rfl rfl ?_)
    | (refine Is_pick ?_; first
      | refine G_pick_t rfl rfl rfl ?_
      | refine G_pick_f rfl rfl rfl ?_)
    | refine GC_cond_t rfl ?_
    | refine GC_cond_f rfl ?_
    | refine GC_seq ?_
    | refine GC_region (fun ops hops => ?_)
    | (refine G_nil ?_; try clear hops; try clear ops)
    | refine At_then ?_
    | refine GC_skip ?_
    | refine GC_block ?_
    | refine GC_exit ?_
    | refine GC_ret ?_
    | refine At_then_exit ?_
    | refine At_then_ret ?_
    | refine At_block ?_
    | refine At_block_ret ?_
    | refine At_block_hit ?_
    | refine At_block_miss rfl ?_
    | refine At_round_exit ?_
    | refine At_round_ret ?_)
      refine C_done (m1 := [_]) rfl ?_
      refine DR_nil rfl ?_
      simp only [List.cons_append, List.nil_append]
      refine G_append_lit rfl rfl (by repeat (first | exact Take.here | apply Take.there)) rfl (by omega) rfl ?_
      intro a2
      rw [dx_snoc z0 z1 z2 l k hlt]
      repeat (first
    | (refine Is_move ?_; refine G_move rfl rfl ?_)
    | (refine Is_assign ?_; refine G_assign rfl rfl ?_)
    | (refine Is_bin ?_; first
      | refine G_lss_t rfl rfl (by omega) rfl ?_
      | refine G_lss_f rfl rfl (by omega) rfl ?_
      | refine G_lss rfl rfl rfl ?_
      | refine G_add rfl rfl rfl (by first | exact IntWalk.i64_in _ (by omega) | rfl) ?_
      | refine G_eql_t rfl rfl (by first | with_reducible rfl | assumption | decide +kernel | omega) rfl ?_
      | refine G_eql_f rfl rfl (by first | decide +kernel | omega | assumption) rfl ?_
      | refine G_eql rfl rfl rfl ?_
      | refine G_neq_f rfl rfl (by first | with_reducible rfl | assumption | decide +kernel | omega) rfl ?_
      | refine G_neq_t rfl rfl (by first | decide +kernel | omega | assumption) rfl ?_
      | refine G_neq rfl rfl rfl ?_
      | refine G_leq_t rfl rfl (by omega) rfl ?_
      | refine G_leq_f rfl rfl (by omega) rfl ?_
      | refine G_leq rfl rfl rfl ?_
      | refine G_gtr_t rfl rfl (by omega) rfl ?_
      | refine G_gtr_f rfl rfl (by omega) rfl ?_
      | refine G_gtr rfl rfl rfl ?_
      | refine G_geq_t rfl rfl (by omega) rfl ?_
      | refine G_geq_f rfl rfl (by omega) rfl ?_
      | refine G_geq rfl rfl rfl ?_
      | refine G_sub rfl rfl rfl (by first | exact IntWalk.i64_in _ (by omega) | rfl) ?_
      | refine G_mul rfl rfl rfl (by first | exact IntWalk.i64_in _ (by omega) | rfl) ?_
      | refine G_xor64 rfl rfl rfl ?_
      | refine G_mul64 rfl rfl rfl ?_
      | refine G_or64 rfl rfl rfl ?_
      | refine G_and64 rfl rfl rfl ?_
      | refine G_add64 rfl rfl rfl ?_
      | refine G_sub64 rfl rfl rfl ?_
      | refine G_shr64 rfl rfl rfl rfl ?_
      | refine G_shl64 rfl rfl rfl rfl ?_
      | refine G_eqlB rfl rfl rfl ?_
      | refine G_neqB rfl rfl rfl ?_)
    | (refine Is_load ?_; first
      | refine G_load rfl rfl rfl ?_
      | refine G_load_cell rfl (by first | assumption | (apply_assumption; done) | fail) rfl ?_)
    | (refine Is_store ?_; refine G_store rfl rfl rfl rfl rfl ?_)
    | (refine Is_builtin ?_; first
      | refine G_len rfl rfl ?_)
    | (refine Is_nilCheck ?_; refine G_nilCheck rfl rfl ?_)
    | (refine Is_convert ?_; first
      | refine G_u64_int rfl rfl ?_
      | refine G_to_u64 rfl rfl ?_
      | refine G_conv _ rfl rfl (by first | exact IntWalk.i64_in _ (by omega) | rfl) ?_)
    | (refine Is_fieldAddr ?_; refine G_fieldOff rfl rfl ?_)
    | (refine Is_indexAddr ?_; first
      | refine G_indexA rfl rfl (by first | decide | omega) rfl ?_
      | refine G_indexP rfl rfl (by first | assumption | omega) rfl ?_)
    | (refine Is_un ?_; refine G_not rfl rfl ?_)
    | (refine Is_makeFunc ?_; refine G_makeFunc rfl rfl rfl ?_)
    | (refine Is_extract ?_; refine G_extract rfl rfl rfl ?_)
    | (refine Is_guard ?_; first
      | refine G_guard_yes (by rw [hops.eq]; rfl) rfl (by simp) ?_
      | refine G_guard_no (by rw [hops.eq]; rfl) rfl rfl rfl ?_)
    | (refine Is_pick ?_; first
      | refine G_pick_t rfl rfl rfl ?_
      | refine G_pick_f rfl rfl rfl ?_)
    | refine GC_cond_t rfl ?_
    | refine GC_cond_f rfl ?_
    | refine GC_seq ?_
    | refine GC_region (fun ops hops => ?_)
    | (refine G_nil ?_; try clear hops; try clear ops)
    | refine At_then ?_
    | refine GC_skip ?_
    | refine GC_block ?_
    | refine GC_exit ?_
    | refine GC_ret ?_
    | refine At_then_exit ?_
    | refine At_then_ret ?_
    | refine At_block ?_
    | refine At_block_ret ?_
    | refine At_block_hit ?_
    | refine At_block_miss rfl ?_
    | refine At_round_exit ?_
    | refine At_round_ret ?_)
      exact At_round (k + 1, a2) (by simp only; omega) (by simp only; omega) ⟨rfl, rfl, rfl, rfl, rfl, rfl, trivial⟩ (fun w1 hw1 => hw1.drop (by repeat (first | exact List.Sublist.slnil | apply List.Sublist.cons_cons | apply List.Sublist.cons)))
  · obtain rfl : k = l.length := by omega
    have hdl := dx_length z0 z1 z2 l
    rw [show ((dx z0 z1 z2 l).take l.length) = dx z0 z1 z2 l by rw [← hdl, List.take_length]]
    refine GC_form (by repeat (first | exact Take.here | apply Take.there)) (fun A2 c2 ea hc2 => ?_)
    subst ea
    have rz := BitVec.toInt_lt (x := z1)
    have rz2 := BitVec.le_toInt (x := z1)
    obtain ⟨n, hn⟩ : ∃ n, n = z1.toInt := ⟨_, rfl⟩
    have t1 := Int.tmod_lt_of_pos n (show (0 : Int) < 100 by omega)
    have t2 := Int.lt_tmod_of_pos n (show (0 : Int) < 100 by omega)
    obtain ⟨r, hr⟩ : ∃ r, r = n.tmod 100 := ⟨_, rfl⟩
    rw [← hr] at t1 t2
    repeat (first
    | (refine Is_move ?_; refine G_move rfl rfl ?_)
    | (refine Is_assign ?_; refine G_assign rfl rfl ?_)
    | (refine Is_bin ?_; first
      | refine G_lss_t rfl rfl (by omega) rfl ?_
      | refine G_lss_f rfl rfl (by omega) rfl ?_
      | refine G_lss rfl rfl rfl ?_
      | refine G_add rfl rfl rfl (by first | exact IntWalk.i64_in _ (by omega) | rfl) ?_
      | refine G_eql_t rfl rfl (by first | with_reducible rfl | assumption | decide +kernel | omega) rfl ?_
      | refine G_eql_f rfl rfl (by first | decide +kernel | omega | assumption) rfl ?_
      | refine G_eql rfl rfl rfl ?_
      | refine G_neq_f rfl rfl (by first | with_reducible rfl | assumption | decide +kernel | omega) rfl ?_
      | refine G_neq_t rfl rfl (by first | decide +kernel | omega | assumption) rfl ?_
      | refine G_neq rfl rfl rfl ?_
      | refine G_leq_t rfl rfl (by omega) rfl ?_
      | refine G_leq_f rfl rfl (by omega) rfl ?_
      | refine G_leq rfl rfl rfl ?_
      | refine G_gtr_t rfl rfl (by omega) rfl ?_
      | refine G_gtr_f rfl rfl (by omega) rfl ?_
      | refine G_gtr rfl rfl rfl ?_
      | refine G_geq_t rfl rfl (by omega) rfl ?_
      | refine G_geq_f rfl rfl (by omega) rfl ?_
      | refine G_geq rfl rfl rfl ?_
      | refine G_sub rfl rfl rfl (by first | exact IntWalk.i64_in _ (by omega) | rfl) ?_
      | refine G_mul rfl rfl rfl (by first | exact IntWalk.i64_in _ (by omega) | rfl) ?_
      | refine G_xor64 rfl rfl rfl ?_
      | refine G_mul64 rfl rfl rfl ?_
      | refine G_or64 rfl rfl rfl ?_
      | refine G_and64 rfl rfl rfl ?_
      | refine G_add64 rfl rfl rfl ?_
      | refine G_sub64 rfl rfl rfl ?_
      | refine G_shr64 rfl rfl rfl rfl ?_
      | refine G_shl64 rfl rfl rfl rfl ?_
      | refine G_eqlB rfl rfl rfl ?_
      | refine G_neqB rfl rfl rfl ?_)
    | (refine Is_load ?_; first
      | refine G_load rfl rfl rfl ?_
      | refine G_load_cell rfl (by first | assumption | (apply_assumption; done) | fail) rfl ?_)
    | (refine Is_store ?_; refine G_store rfl rfl rfl rfl rfl ?_)
    | (refine Is_builtin ?_; first
      | refine G_len rfl rfl ?_)
    | (refine Is_nilCheck ?_; refine G_nilCheck rfl rfl ?_)
    | (refine Is_convert ?_; first
      | refine G_u64_int rfl rfl ?_
      | refine G_to_u64 rfl rfl ?_
      | refine G_conv _ rfl rfl (by first | exact IntWalk.i64_in _ (by omega) | rfl) ?_)
    | (refine Is_fieldAddr ?_; refine G_fieldOff rfl rfl ?_)
    | (refine Is_indexAddr ?_; first
      | refine G_indexA rfl rfl (by first | decide | omega) rfl ?_
      | refine G_indexP rfl rfl (by first | assumption | omega) rfl ?_)
    | (refine Is_un ?_; refine G_not rfl rfl ?_)
    | (refine Is_makeFunc ?_; refine G_makeFunc rfl rfl rfl ?_)
    | (refine Is_extract ?_; refine G_extract rfl rfl rfl ?_)
    | (refine Is_guard ?_; first
      | refine G_guard_yes (by rw [hops.eq]; rfl) rfl (by simp) ?_
      | refine G_guard_no (by rw [hops.eq]; rfl) rfl rfl rfl ?_)
    | (refine Is_pick ?_; first
      | refine G_pick_t rfl rfl rfl ?_
      | refine G_pick_f rfl rfl rfl ?_)
    | refine GC_cond_t rfl ?_
    | refine GC_cond_f rfl ?_
    | refine GC_seq ?_
    | refine GC_region (fun ops hops => ?_)
    | (refine G_nil ?_; try clear hops; try clear ops)
    | refine At_then ?_
    | refine GC_skip ?_
    | refine GC_block ?_
    | refine GC_exit ?_
    | refine GC_ret ?_
    | refine At_then_exit ?_
    | refine At_then_ret ?_
    | refine At_block ?_
    | refine At_block_ret ?_
    | refine At_block_hit ?_
    | refine At_block_miss rfl ?_
    | refine At_round_exit ?_
    | refine At_round_ret ?_)
    rw [← hn]
    refine GC_loop' (X := Nat) (fun k => k ≤ l.length + 1)
      (fun k => [(0, .slice A l.length c), (1, .slice A' bs.length c'), (5, .pointer (some ⟨b, 0, none⟩)), (7, .bool true), (8, .slice A2 l.length c2), (10, I n), (11, I k)])
      (fun k => [.own (.slice A2 l.length c2) 24 1 l.length ((dx z0 z1 z2 l).map U), .box b (.cells #[U z0, U z1, U z2] 25)])
      (fun k => l.length + 1 - k) 0 (Nat.zero_le _) ⟨rfl, rfl, rfl, rfl, rfl, rfl, rfl, trivial⟩ (fun w h => h) ?_
    intro k hk
    by_cases hlt : k ≤ l.length
    · repeat (first
    | (refine Is_move ?_; refine G_move rfl rfl ?_)
    | (refine Is_assign ?_; refine G_assign rfl rfl ?_)
    | (refine Is_bin ?_; first
      | refine G_lss_t rfl rfl (by omega) rfl ?_
      | refine G_lss_f rfl rfl (by omega) rfl ?_
      | refine G_lss rfl rfl rfl ?_
      | refine G_add rfl rfl rfl (by first | exact IntWalk.i64_in _ (by omega) | rfl) ?_
      | refine G_eql_t rfl rfl (by first | with_reducible rfl | assumption | decide +kernel | omega) rfl ?_
      | refine G_eql_f rfl rfl (by first | decide +kernel | omega | assumption) rfl ?_
      | refine G_eql rfl rfl rfl ?_
      | refine G_neq_f rfl rfl (by first | with_reducible rfl | assumption | decide +kernel | omega) rfl ?_
      | refine G_neq_t rfl rfl (by first | decide +kernel | omega | assumption) rfl ?_
      | refine G_neq rfl rfl rfl ?_
      | refine G_leq_t rfl rfl (by omega) rfl ?_
      | refine G_leq_f rfl rfl (by omega) rfl ?_
      | refine G_leq rfl rfl rfl ?_
      | refine G_gtr_t rfl rfl (by omega) rfl ?_
      | refine G_gtr_f rfl rfl (by omega) rfl ?_
      | refine G_gtr rfl rfl rfl ?_
      | refine G_geq_t rfl rfl (by omega) rfl ?_
      | refine G_geq_f rfl rfl (by omega) rfl ?_
      | refine G_geq rfl rfl rfl ?_
      | refine G_sub rfl rfl rfl (by first | exact IntWalk.i64_in _ (by omega) | rfl) ?_
      | refine G_mul rfl rfl rfl (by first | exact IntWalk.i64_in _ (by omega) | rfl) ?_
      | refine G_xor64 rfl rfl rfl ?_
      | refine G_mul64 rfl rfl rfl ?_
      | refine G_or64 rfl rfl rfl ?_
      | refine G_and64 rfl rfl rfl ?_
      | refine G_add64 rfl rfl rfl ?_
      | refine G_sub64 rfl rfl rfl ?_
      | refine G_shr64 rfl rfl rfl rfl ?_
      | refine G_shl64 rfl rfl rfl rfl ?_
      | refine G_eqlB rfl rfl rfl ?_
      | refine G_neqB rfl rfl rfl ?_)
    | (refine Is_load ?_; first
      | refine G_load rfl rfl rfl ?_
      | refine G_load_cell rfl (by first | assumption | (apply_assumption; done) | fail) rfl ?_)
    | (refine Is_store ?_; refine G_store rfl rfl rfl rfl rfl ?_)
    | (refine Is_builtin ?_; first
      | refine G_len rfl rfl ?_)
    | (refine Is_nilCheck ?_; refine G_nilCheck rfl rfl ?_)
    | (refine Is_convert ?_; first
      | refine G_u64_int rfl rfl ?_
      | refine G_to_u64 rfl rfl ?_
      | refine G_conv _ rfl rfl (by first | exact IntWalk.i64_in _ (by omega) | rfl) ?_)
    | (refine Is_fieldAddr ?_; refine G_fieldOff rfl rfl ?_)
    | (refine Is_indexAddr ?_; first
      | refine G_indexA rfl rfl (by first | decide | omega) rfl ?_
      | refine G_indexP rfl rfl (by first | assumption | omega) rfl ?_)
    | (refine Is_un ?_; refine G_not rfl rfl ?_)
    | (refine Is_makeFunc ?_; refine G_makeFunc rfl rfl rfl ?_)
    | (refine Is_extract ?_; refine G_extract rfl rfl rfl ?_)
    | (refine Is_guard ?_; first
      | refine G_guard_yes (by rw [hops.eq]; rfl) rfl (by simp) ?_
      | refine G_guard_no (by rw [hops.eq]; rfl) rfl rfl rfl ?_)
    | (refine Is_pick ?_; first
      | refine G_pick_t rfl rfl rfl ?_
      | refine G_pick_f rfl rfl rfl ?_)
    | refine GC_cond_t rfl ?_
    | refine GC_cond_f rfl ?_
    | refine GC_seq ?_
    | refine GC_region (fun ops hops => ?_)
    | (refine G_nil ?_; try clear hops; try clear ops)
    | refine At_then ?_
    | refine GC_skip ?_
    | refine GC_block ?_
    | refine GC_exit ?_
    | refine GC_ret ?_
    | refine At_then_exit ?_
    | refine At_then_ret ?_
    | refine At_block ?_
    | refine At_block_ret ?_
    | refine At_block_hit ?_
    | refine At_block_miss rfl ?_
    | refine At_round_exit ?_
    | refine At_round_ret ?_)
      refine GC_draw [0, 1, 2, 3, 4, 5, 6, 7, 8] [] 9 rfl (by kernel_rfl) (fun ops hops => ?_)
      repeat
        apply DR_x rfl rfl rfl
        (· intro mm
           (repeat (first
    | (refine Is_move ?_; refine G_move rfl rfl ?_)
    | (refine Is_assign ?_; refine G_assign rfl rfl ?_)
    | (refine Is_bin ?_; first
      | refine G_lss_t rfl rfl (by omega) rfl ?_
      | refine G_lss_f rfl rfl (by omega) rfl ?_
      | refine G_lss rfl rfl rfl ?_
      | refine G_add rfl rfl rfl (by first | exact IntWalk.i64_in _ (by omega) | rfl) ?_
      | refine G_eql_t rfl rfl (by first | with_reducible rfl | assumption | decide +kernel | omega) rfl ?_
      | refine G_eql_f rfl rfl (by first | decide +kernel | omega | assumption) rfl ?_
      | refine G_eql rfl rfl rfl ?_
      | refine G_neq_f rfl rfl (by first | with_reducible rfl | assumption | decide +kernel | omega) rfl ?_
      | refine G_neq_t rfl rfl (by first | decide +kernel | omega | assumption) rfl ?_
      | refine G_neq rfl rfl rfl ?_
      | refine G_leq_t rfl rfl (by omega) rfl ?_
      | refine G_leq_f rfl rfl (by omega) rfl ?_
      | refine G_leq rfl rfl rfl ?_
      | refine G_gtr_t rfl rfl (by omega) rfl ?_
      | refine G_gtr_f rfl rfl (by omega) rfl ?_
      | refine G_gtr rfl rfl rfl ?_
      | refine G_geq_t rfl rfl (by omega) rfl ?_
      | refine G_geq_f rfl rfl (by omega) rfl ?_
      | refine G_geq rfl rfl rfl ?_
      | refine G_sub rfl rfl rfl (by first | exact IntWalk.i64_in _ (by omega) | rfl) ?_
      | refine G_mul rfl rfl rfl (by first | exact IntWalk.i64_in _ (by omega) | rfl) ?_
      | refine G_xor64 rfl rfl rfl ?_
      | refine G_mul64 rfl rfl rfl ?_
      | refine G_or64 rfl rfl rfl ?_
      | refine G_and64 rfl rfl rfl ?_
      | refine G_add64 rfl rfl rfl ?_
      | refine G_sub64 rfl rfl rfl ?_
      | refine G_shr64 rfl rfl rfl rfl ?_
      | refine G_shl64 rfl rfl rfl rfl ?_
      | refine G_eqlB rfl rfl rfl ?_
      | refine G_neqB rfl rfl rfl ?_)
    | (refine Is_load ?_; first
      | refine G_load rfl rfl rfl ?_
      | refine G_load_cell rfl (by first | assumption | (apply_assumption; done) | fail) rfl ?_)
    | (refine Is_store ?_; refine G_store rfl rfl rfl rfl rfl ?_)
    | (refine Is_builtin ?_; first
      | refine G_len rfl rfl ?_)
    | (refine Is_nilCheck ?_; refine G_nilCheck rfl rfl ?_)
    | (refine Is_convert ?_; first
      | refine G_u64_int rfl rfl ?_
      | refine G_to_u64 rfl rfl ?_
      | refine G_conv _ rfl rfl (by first | exact IntWalk.i64_in _ (by omega) | rfl) ?_)
    | (refine Is_fieldAddr ?_; refine G_fieldOff rfl rfl ?_)
    | (refine Is_indexAddr ?_; first
      | refine G_indexA rfl rfl (by first | decide | omega) rfl ?_
      | refine G_indexP rfl rfl (by first | assumption | omega) rfl ?_)
    | (refine Is_un ?_; refine G_not rfl rfl ?_)
    | (refine Is_makeFunc ?_; refine G_makeFunc rfl rfl rfl ?_)
    | (refine Is_extract ?_; refine G_extract rfl rfl rfl ?_)
    | (refine Is_guard ?_; first
      | refine G_guard_yes (by rw [hops.eq]; rfl) rfl (by simp) ?_
      | refine G_guard_no (by rw [hops.eq]; rfl) rfl rfl rfl ?_)
    | (refine Is_pick ?_; first
      | refine G_pick_t rfl rfl rfl ?_
      | refine G_pick_f rfl rfl rfl ?_)
    | refine GC_cond_t rfl ?_
    | refine GC_cond_f rfl ?_
    | refine GC_seq ?_
    | refine GC_region (fun ops hops => ?_)
    | (refine G_nil ?_; try clear hops; try clear ops)
    | refine At_then ?_
    | refine GC_skip ?_
    | refine GC_block ?_
    | refine GC_exit ?_
    | refine GC_ret ?_
    | refine At_then_exit ?_
    | refine At_then_ret ?_
    | refine At_block ?_
    | refine At_block_ret ?_
    | refine At_block_hit ?_
    | refine At_block_miss rfl ?_
    | refine At_round_exit ?_
    | refine At_round_ret ?_))
           exact X_done rfl (List.Sublist.refl _))
      apply DR_x rfl rfl rfl
      · intro mm
        try refine G_guard_yes (by rw [hops.eq]; rfl) rfl (by simp) ?_
        refine G_sliceX 0 k rfl (.inr ⟨rfl, rfl⟩) (.inl rfl) (Nat.zero_le _) (by omega) rfl ?_
        refine G_nil ?_
        (refine X_done rfl ?_; first | exact List.Sublist.refl _ | exact List.sublist_append_right _ _ | exact List.Sublist.cons _ (List.Sublist.refl _))
      repeat
        apply DR_x rfl rfl rfl
        (· intro mm
           (repeat (first
    | (refine Is_move ?_; refine G_move rfl rfl ?_)
    | (refine Is_assign ?_; refine G_assign rfl rfl ?_)
    | (refine Is_bin ?_; first
      | refine G_lss_t rfl rfl (by omega) rfl ?_
      | refine G_lss_f rfl rfl (by omega) rfl ?_
      | refine G_lss rfl rfl rfl ?_
      | refine G_add rfl rfl rfl (by first | exact IntWalk.i64_in _ (by omega) | rfl) ?_
      | refine G_eql_t rfl rfl (by first | with_reducible rfl | assumption | decide +kernel | omega) rfl ?_
      | refine G_eql_f rfl rfl (by first | decide +kernel | omega | assumption) rfl ?_
      | refine G_eql rfl rfl rfl ?_
      | refine G_neq_f rfl rfl (by first | with_reducible rfl | assumption | decide +kernel | omega) rfl ?_
      | refine G_neq_t rfl rfl (by first | decide +kernel | omega | assumption) rfl ?_
      | refine G_neq rfl rfl rfl ?_
      | refine G_leq_t rfl rfl (by omega) rfl ?_
      | refine G_leq_f rfl rfl (by omega) rfl ?_
      | refine G_leq rfl rfl rfl ?_
      | refine G_gtr_t rfl rfl (by omega) rfl ?_
      | refine G_gtr_f rfl rfl (by omega) rfl ?_
      | refine G_gtr rfl rfl rfl ?_
      | refine G_geq_t rfl rfl (by omega) rfl ?_
      | refine G_geq_f rfl rfl (by omega) rfl ?_
      | refine G_geq rfl rfl rfl ?_
      | refine G_sub rfl rfl rfl (by first | exact IntWalk.i64_in _ (by omega) | rfl) ?_
      | refine G_mul rfl rfl rfl (by first | exact IntWalk.i64_in _ (by omega) | rfl) ?_
      | refine G_xor64 rfl rfl rfl ?_
      | refine G_mul64 rfl rfl rfl ?_
      | refine G_or64 rfl rfl rfl ?_
      | refine G_and64 rfl rfl rfl ?_
      | refine G_add64 rfl rfl rfl ?_
      | refine G_sub64 rfl rfl rfl ?_
      | refine G_shr64 rfl rfl rfl rfl ?_
      | refine G_shl64 rfl rfl rfl rfl ?_
      | refine G_eqlB rfl rfl rfl ?_
      | refine G_neqB rfl rfl rfl ?_)
    | (refine Is_load ?_; first
      | refine G_load rfl rfl rfl ?_
      | refine G_load_cell rfl (by first | assumption | (apply_assumption; done) | fail) rfl ?_)
    | (refine Is_store ?_; refine G_store rfl rfl rfl rfl rfl ?_)
    | (refine Is_builtin ?_; first
      | refine G_len rfl rfl ?_)
    | (refine Is_nilCheck ?_; refine G_nilCheck rfl rfl ?_)
    | (refine Is_convert ?_; first
      | refine G_u64_int rfl rfl ?_
      | refine G_to_u64 rfl rfl ?_
      | refine G_conv _ rfl rfl (by first | exact IntWalk.i64_in _ (by omega) | rfl) ?_)
    | (refine Is_fieldAddr ?_; refine G_fieldOff rfl rfl ?_)
    | (refine Is_indexAddr ?_; first
      | refine G_indexA rfl rfl (by first | decide | omega) rfl ?_
      | refine G_indexP rfl rfl (by first | assumption | omega) rfl ?_)
    | (refine Is_un ?_; refine G_not rfl rfl ?_)
    | (refine Is_makeFunc ?_; refine G_makeFunc rfl rfl rfl ?_)
    | (refine Is_extract ?_; refine G_extract rfl rfl rfl ?_)
    | (refine Is_guard ?_; first
      | refine G_guard_yes (by rw [hops.eq]; rfl) rfl (by simp) ?_
      | refine G_guard_no (by rw [hops.eq]; rfl) rfl rfl rfl ?_)
    | (refine Is_pick ?_; first
      | refine G_pick_t rfl rfl rfl ?_
      | refine G_pick_f rfl rfl rfl ?_)
    | refine GC_cond_t rfl ?_
    | refine GC_cond_f rfl ?_
    | refine GC_seq ?_
    | refine GC_region (fun ops hops => ?_)
    | (refine G_nil ?_; try clear hops; try clear ops)
    | refine At_then ?_
    | refine GC_skip ?_
    | refine GC_block ?_
    | refine GC_exit ?_
    | refine GC_ret ?_
    | refine At_then_exit ?_
    | refine At_then_ret ?_
    | refine At_block ?_
    | refine At_block_ret ?_
    | refine At_block_hit ?_
    | refine At_block_miss rfl ?_
    | refine At_round_exit ?_
    | refine At_round_ret ?_))
           exact X_done rfl (List.Sublist.refl _))
      apply DR_x rfl rfl rfl
      · intro mm
        try refine G_guard_yes (by rw [hops.eq]; rfl) rfl (by simp) ?_
        refine G_call rfl (fun w1 hw1 => dig_List _ (((dx z0 z1 z2 l).drop 0).take (k - 0)) w1 ((RdS.cutV (n := l.length) (lo := 0) (hi := k) (RdS.own (e := 24) (n := l.length) (by simp)) (by omega) (by omega)) w1 hw1)) rfl ?_
        refine G_nil ?_
        (refine X_done rfl ?_; first | exact List.Sublist.refl _ | exact List.sublist_append_right _ _ | exact List.Sublist.cons _ (List.Sublist.refl _))
      repeat
        apply DR_x rfl rfl rfl
        (· intro mm
           (repeat (first
    | (refine Is_move ?_; refine G_move rfl rfl ?_)
    | (refine Is_assign ?_; refine G_assign rfl rfl ?_)
    | (refine Is_bin ?_; first
      | refine G_lss_t rfl rfl (by omega) rfl ?_
      | refine G_lss_f rfl rfl (by omega) rfl ?_
      | refine G_lss rfl rfl rfl ?_
      | refine G_add rfl rfl rfl (by first | exact IntWalk.i64_in _ (by omega) | rfl) ?_
      | refine G_eql_t rfl rfl (by first | with_reducible rfl | assumption | decide +kernel | omega) rfl ?_
      | refine G_eql_f rfl rfl (by first | decide +kernel | omega | assumption) rfl ?_
      | refine G_eql rfl rfl rfl ?_
      | refine G_neq_f rfl rfl (by first | with_reducible rfl | assumption | decide +kernel | omega) rfl ?_
      | refine G_neq_t rfl rfl (by first | decide +kernel | omega | assumption) rfl ?_
      | refine G_neq rfl rfl rfl ?_
      | refine G_leq_t rfl rfl (by omega) rfl ?_
      | refine G_leq_f rfl rfl (by omega) rfl ?_
      | refine G_leq rfl rfl rfl ?_
      | refine G_gtr_t rfl rfl (by omega) rfl ?_
      | refine G_gtr_f rfl rfl (by omega) rfl ?_
      | refine G_gtr rfl rfl rfl ?_
      | refine G_geq_t rfl rfl (by omega) rfl ?_
      | refine G_geq_f rfl rfl (by omega) rfl ?_
      | refine G_geq rfl rfl rfl ?_
      | refine G_sub rfl rfl rfl (by first | exact IntWalk.i64_in _ (by omega) | rfl) ?_
      | refine G_mul rfl rfl rfl (by first | exact IntWalk.i64_in _ (by omega) | rfl) ?_
      | refine G_xor64 rfl rfl rfl ?_
      | refine G_mul64 rfl rfl rfl ?_
      | refine G_or64 rfl rfl rfl ?_
      | refine G_and64 rfl rfl rfl ?_
      | refine G_add64 rfl rfl rfl ?_
      | refine G_sub64 rfl rfl rfl ?_
      | refine G_shr64 rfl rfl rfl rfl ?_
      | refine G_shl64 rfl rfl rfl rfl ?_
      | refine G_eqlB rfl rfl rfl ?_
      | refine G_neqB rfl rfl rfl ?_)
    | (refine Is_load ?_; first
      | refine G_load rfl rfl rfl ?_
      | refine G_load_cell rfl (by first | assumption | (apply_assumption; done) | fail) rfl ?_)
    | (refine Is_store ?_; refine G_store rfl rfl rfl rfl rfl ?_)
    | (refine Is_builtin ?_; first
      | refine G_len rfl rfl ?_)
    | (refine Is_nilCheck ?_; refine G_nilCheck rfl rfl ?_)
    | (refine Is_convert ?_; first
      | refine G_u64_int rfl rfl ?_
      | refine G_to_u64 rfl rfl ?_
      | refine G_conv _ rfl rfl (by first | exact IntWalk.i64_in _ (by omega) | rfl) ?_)
    | (refine Is_fieldAddr ?_; refine G_fieldOff rfl rfl ?_)
    | (refine Is_indexAddr ?_; first
      | refine G_indexA rfl rfl (by first | decide | omega) rfl ?_
      | refine G_indexP rfl rfl (by first | assumption | omega) rfl ?_)
    | (refine Is_un ?_; refine G_not rfl rfl ?_)
    | (refine Is_makeFunc ?_; refine G_makeFunc rfl rfl rfl ?_)
    | (refine Is_extract ?_; refine G_extract rfl rfl rfl ?_)
    | (refine Is_guard ?_; first
      | refine G_guard_yes (by rw [hops.eq]; rfl) rfl (by simp) ?_
      | refine G_guard_no (by rw [hops.eq]; rfl) rfl rfl rfl ?_)
    | (refine Is_pick ?_; first
      | refine G_pick_t rfl rfl rfl ?_
      | refine G_pick_f rfl rfl rfl ?_)
    | refine GC_cond_t rfl ?_
    | refine GC_cond_f rfl ?_
    | refine GC_seq ?_
    | refine GC_region (fun ops hops => ?_)
    | (refine G_nil ?_; try clear hops; try clear ops)
    | refine At_then ?_
    | refine GC_skip ?_
    | refine GC_block ?_
    | refine GC_exit ?_
    | refine GC_ret ?_
    | refine At_then_exit ?_
    | refine At_then_ret ?_
    | refine At_block ?_
    | refine At_block_ret ?_
    | refine At_block_hit ?_
    | refine At_block_miss rfl ?_
    | refine At_round_exit ?_
    | refine At_round_ret ?_))
           exact X_done rfl (List.Sublist.refl _))
      apply DR_x rfl rfl rfl
      · intro mm
        try refine G_guard_yes (by rw [hops.eq]; rfl) rfl (by simp) ?_
        refine G_sliceX 0 k rfl (.inr ⟨rfl, rfl⟩) (.inl rfl) (Nat.zero_le _) (by omega) rfl ?_
        refine G_nil ?_
        (refine X_done rfl ?_; first | exact List.Sublist.refl _ | exact List.sublist_append_right _ _ | exact List.Sublist.cons _ (List.Sublist.refl _))
      repeat
        apply DR_x rfl rfl rfl
        (· intro mm
           (repeat (first
    | (refine Is_move ?_; refine G_move rfl rfl ?_)
    | (refine Is_assign ?_; refine G_assign rfl rfl ?_)
    | (refine Is_bin ?_; first
      | refine G_lss_t rfl rfl (by omega) rfl ?_
      | refine G_lss_f rfl rfl (by omega) rfl ?_
      | refine G_lss rfl rfl rfl ?_
      | refine G_add rfl rfl rfl (by first | exact IntWalk.i64_in _ (by omega) | rfl) ?_
      | refine G_eql_t rfl rfl (by first | with_reducible rfl | assumption | decide +kernel | omega) rfl ?_
      | refine G_eql_f rfl rfl (by first | decide +kernel | omega | assumption) rfl ?_
      | refine G_eql rfl rfl rfl ?_
      | refine G_neq_f rfl rfl (by first | with_reducible rfl | assumption | decide +kernel | omega) rfl ?_
      | refine G_neq_t rfl rfl (by first | decide +kernel | omega | assumption) rfl ?_
      | refine G_neq rfl rfl rfl ?_
      | refine G_leq_t rfl rfl (by omega) rfl ?_
      | refine G_leq_f rfl rfl (by omega) rfl ?_
      | refine G_leq rfl rfl rfl ?_
      | refine G_gtr_t rfl rfl (by omega) rfl ?_
      | refine G_gtr_f rfl rfl (by omega) rfl ?_
      | refine G_gtr rfl rfl rfl ?_
      | refine G_geq_t rfl rfl (by omega) rfl ?_
      | refine G_geq_f rfl rfl (by omega) rfl ?_
      | refine G_geq rfl rfl rfl ?_
      | refine G_sub rfl rfl rfl (by first | exact IntWalk.i64_in _ (by omega) | rfl) ?_
      | refine G_mul rfl rfl rfl (by first | exact IntWalk.i64_in _ (by omega) | rfl) ?_
      | refine G_xor64 rfl rfl rfl ?_
      | refine G_mul64 rfl rfl rfl ?_
      | refine G_or64 rfl rfl rfl ?_
      | refine G_and64 rfl rfl rfl ?_
      | refine G_add64 rfl rfl rfl ?_
      | refine G_sub64 rfl rfl rfl ?_
      | refine G_shr64 rfl rfl rfl rfl ?_
      | refine G_shl64 rfl rfl rfl rfl ?_
      | refine G_eqlB rfl rfl rfl ?_
      | refine G_neqB rfl rfl rfl ?_)
    | (refine Is_load ?_; first
      | refine G_load rfl rfl rfl ?_
      | refine G_load_cell rfl (by first | assumption | (apply_assumption; done) | fail) rfl ?_)
    | (refine Is_store ?_; refine G_store rfl rfl rfl rfl rfl ?_)
    | (refine Is_builtin ?_; first
      | refine G_len rfl rfl ?_)
    | (refine Is_nilCheck ?_; refine G_nilCheck rfl rfl ?_)
    | (refine Is_convert ?_; first
      | refine G_u64_int rfl rfl ?_
      | refine G_to_u64 rfl rfl ?_
      | refine G_conv _ rfl rfl (by first | exact IntWalk.i64_in _ (by omega) | rfl) ?_)
    | (refine Is_fieldAddr ?_; refine G_fieldOff rfl rfl ?_)
    | (refine Is_indexAddr ?_; first
      | refine G_indexA rfl rfl (by first | decide | omega) rfl ?_
      | refine G_indexP rfl rfl (by first | assumption | omega) rfl ?_)
    | (refine Is_un ?_; refine G_not rfl rfl ?_)
    | (refine Is_makeFunc ?_; refine G_makeFunc rfl rfl rfl ?_)
    | (refine Is_extract ?_; refine G_extract rfl rfl rfl ?_)
    | (refine Is_guard ?_; first
      | refine G_guard_yes (by rw [hops.eq]; rfl) rfl (by simp) ?_
      | refine G_guard_no (by rw [hops.eq]; rfl) rfl rfl rfl ?_)
    | (refine Is_pick ?_; first
      | refine G_pick_t rfl rfl rfl ?_
      | refine G_pick_f rfl rfl rfl ?_)
    | refine GC_cond_t rfl ?_
    | refine GC_cond_f rfl ?_
    | refine GC_seq ?_
    | refine GC_region (fun ops hops => ?_)
    | (refine G_nil ?_; try clear hops; try clear ops)
    | refine At_then ?_
    | refine GC_skip ?_
    | refine GC_block ?_
    | refine GC_exit ?_
    | refine GC_ret ?_
    | refine At_then_exit ?_
    | refine At_then_ret ?_
    | refine At_block ?_
    | refine At_block_ret ?_
    | refine At_block_hit ?_
    | refine At_block_miss rfl ?_
    | refine At_round_exit ?_
    | refine At_round_ret ?_))
           exact X_done rfl (List.Sublist.refl _))
      apply DR_x rfl rfl rfl
      · intro mm
        try refine G_guard_yes (by rw [hops.eq]; rfl) rfl (by simp) ?_
        refine G_call rfl (fun w1 hw1 => ref_List _ (((dx z0 z1 z2 l).drop 0).take (k - 0)) w1 ((RdS.cutV (n := l.length) (lo := 0) (hi := k) (RdS.own (e := 24) (n := l.length) (by simp)) (by omega) (by omega)) w1 hw1)) rfl ?_
        refine G_nil ?_
        (refine X_done rfl ?_; first | exact List.Sublist.refl _ | exact List.sublist_append_right _ _ | exact List.Sublist.cons _ (List.Sublist.refl _))
      repeat
        apply DR_x rfl rfl rfl
        (· intro mm
           (repeat (first
    | (refine Is_move ?_; refine G_move rfl rfl ?_)
    | (refine Is_assign ?_; refine G_assign rfl rfl ?_)
    | (refine Is_bin ?_; first
      | refine G_lss_t rfl rfl (by omega) rfl ?_
      | refine G_lss_f rfl rfl (by omega) rfl ?_
      | refine G_lss rfl rfl rfl ?_
      | refine G_add rfl rfl rfl (by first | exact IntWalk.i64_in _ (by omega) | rfl) ?_
      | refine G_eql_t rfl rfl (by first | with_reducible rfl | assumption | decide +kernel | omega) rfl ?_
      | refine G_eql_f rfl rfl (by first | decide +kernel | omega | assumption) rfl ?_
      | refine G_eql rfl rfl rfl ?_
      | refine G_neq_f rfl rfl (by first | with_reducible rfl | assumption | decide +kernel | omega) rfl ?_
      | refine G_neq_t rfl rfl (by first | decide +kernel | omega | assumption) rfl ?_
      | refine G_neq rfl rfl rfl ?_
      | refine G_leq_t rfl rfl (by omega) rfl ?_
      | refine G_leq_f rfl rfl (by omega) rfl ?_
      | refine G_leq rfl rfl rfl ?_
      | refine G_gtr_t rfl rfl (by omega) rfl ?_
      | refine G_gtr_f rfl rfl (by omega) rfl ?_
      | refine G_gtr rfl rfl rfl ?_
      | refine G_geq_t rfl rfl (by omega) rfl ?_
      | refine G_geq_f rfl rfl (by omega) rfl ?_
      | refine G_geq rfl rfl rfl ?_
      | refine G_sub rfl rfl rfl (by first | exact IntWalk.i64_in _ (by omega) | rfl) ?_
      | refine G_mul rfl rfl rfl (by first | exact IntWalk.i64_in _ (by omega) | rfl) ?_
      | refine G_xor64 rfl rfl rfl ?_
      | refine G_mul64 rfl rfl rfl ?_
      | refine G_or64 rfl rfl rfl ?_
      | refine G_and64 rfl rfl rfl ?_
      | refine G_add64 rfl rfl rfl ?_
      | refine G_sub64 rfl rfl rfl ?_
      | refine G_shr64 rfl rfl rfl rfl ?_
      | refine G_shl64 rfl rfl rfl rfl ?_
      | refine G_eqlB rfl rfl rfl ?_
      | refine G_neqB rfl rfl rfl ?_)
    | (refine Is_load ?_; first
      | refine G_load rfl rfl rfl ?_
      | refine G_load_cell rfl (by first | assumption | (apply_assumption; done) | fail) rfl ?_)
    | (refine Is_store ?_; refine G_store rfl rfl rfl rfl rfl ?_)
    | (refine Is_builtin ?_; first
      | refine G_len rfl rfl ?_)
    | (refine Is_nilCheck ?_; refine G_nilCheck rfl rfl ?_)
    | (refine Is_convert ?_; first
      | refine G_u64_int rfl rfl ?_
      | refine G_to_u64 rfl rfl ?_
      | refine G_conv _ rfl rfl (by first | exact IntWalk.i64_in _ (by omega) | rfl) ?_)
    | (refine Is_fieldAddr ?_; refine G_fieldOff rfl rfl ?_)
    | (refine Is_indexAddr ?_; first
      | refine G_indexA rfl rfl (by first | decide | omega) rfl ?_
      | refine G_indexP rfl rfl (by first | assumption | omega) rfl ?_)
    | (refine Is_un ?_; refine G_not rfl rfl ?_)
    | (refine Is_makeFunc ?_; refine G_makeFunc rfl rfl rfl ?_)
    | (refine Is_extract ?_; refine G_extract rfl rfl rfl ?_)
    | (refine Is_guard ?_; first
      | refine G_guard_yes (by rw [hops.eq]; rfl) rfl (by simp) ?_
      | refine G_guard_no (by rw [hops.eq]; rfl) rfl rfl rfl ?_)
    | (refine Is_pick ?_; first
      | refine G_pick_t rfl rfl rfl ?_
      | refine G_pick_f rfl rfl rfl ?_)
    | refine GC_cond_t rfl ?_
    | refine GC_cond_f rfl ?_
    | refine GC_seq ?_
    | refine GC_region (fun ops hops => ?_)
    | (refine G_nil ?_; try clear hops; try clear ops)
    | refine At_then ?_
    | refine GC_skip ?_
    | refine GC_block ?_
    | refine GC_exit ?_
    | refine GC_ret ?_
    | refine At_then_exit ?_
    | refine At_then_ret ?_
    | refine At_block ?_
    | refine At_block_ret ?_
    | refine At_block_hit ?_
    | refine At_block_miss rfl ?_
    | refine At_round_exit ?_
    | refine At_round_ret ?_))
           exact X_done rfl (List.Sublist.refl _))
      refine DR_nil rfl ?_
      clear hops
      repeat (first
    | (refine Is_move ?_; refine G_move rfl rfl ?_)
    | (refine Is_assign ?_; refine G_assign rfl rfl ?_)
    | (refine Is_bin ?_; first
      | refine G_lss_t rfl rfl (by omega) rfl ?_
      | refine G_lss_f rfl rfl (by omega) rfl ?_
      | refine G_lss rfl rfl rfl ?_
      | refine G_add rfl rfl rfl (by first | exact IntWalk.i64_in _ (by omega) | rfl) ?_
      | refine G_eql_t rfl rfl (by first | with_reducible rfl | assumption | decide +kernel | omega) rfl ?_
      | refine G_eql_f rfl rfl (by first | decide +kernel | omega | assumption) rfl ?_
      | refine G_eql rfl rfl rfl ?_
      | refine G_neq_f rfl rfl (by first | with_reducible rfl | assumption | decide +kernel | omega) rfl ?_
      | refine G_neq_t rfl rfl (by first | decide +kernel | omega | assumption) rfl ?_
      | refine G_neq rfl rfl rfl ?_
      | refine G_leq_t rfl rfl (by omega) rfl ?_
      | refine G_leq_f rfl rfl (by omega) rfl ?_
      | refine G_leq rfl rfl rfl ?_
      | refine G_gtr_t rfl rfl (by omega) rfl ?_
      | refine G_gtr_f rfl rfl (by omega) rfl ?_
      | refine G_gtr rfl rfl rfl ?_
      | refine G_geq_t rfl rfl (by omega) rfl ?_
      | refine G_geq_f rfl rfl (by omega) rfl ?_
      | refine G_geq rfl rfl rfl ?_
      | refine G_sub rfl rfl rfl (by first | exact IntWalk.i64_in _ (by omega) | rfl) ?_
      | refine G_mul rfl rfl rfl (by first | exact IntWalk.i64_in _ (by omega) | rfl) ?_
      | refine G_xor64 rfl rfl rfl ?_
      | refine G_mul64 rfl rfl rfl ?_
      | refine G_or64 rfl rfl rfl ?_
      | refine G_and64 rfl rfl rfl ?_
      | refine G_add64 rfl rfl rfl ?_
      | refine G_sub64 rfl rfl rfl ?_
      | refine G_shr64 rfl rfl rfl rfl ?_
      | refine G_shl64 rfl rfl rfl rfl ?_
      | refine G_eqlB rfl rfl rfl ?_
      | refine G_neqB rfl rfl rfl ?_)
    | (refine Is_load ?_; first
      | refine G_load rfl rfl rfl ?_
      | refine G_load_cell rfl (by first | assumption | (apply_assumption; done) | fail) rfl ?_)
    | (refine Is_store ?_; refine G_store rfl rfl rfl rfl rfl ?_)
    | (refine Is_builtin ?_; first
      | refine G_len rfl rfl ?_)
    | (refine Is_nilCheck ?_; refine G_nilCheck rfl rfl ?_)
    | (refine Is_convert ?_; first
      | refine G_u64_int rfl rfl ?_
      | refine G_to_u64 rfl rfl ?_
      | refine G_conv _ rfl rfl (by first | exact IntWalk.i64_in _ (by omega) | rfl) ?_)
    | (refine Is_fieldAddr ?_; refine G_fieldOff rfl rfl ?_)
    | (refine Is_indexAddr ?_; first
      | refine G_indexA rfl rfl (by first | decide | omega) rfl ?_
      | refine G_indexP rfl rfl (by first | assumption | omega) rfl ?_)
    | (refine Is_un ?_; refine G_not rfl rfl ?_)
    | (refine Is_makeFunc ?_; refine G_makeFunc rfl rfl rfl ?_)
    | (refine Is_extract ?_; refine G_extract rfl rfl rfl ?_)
    | (refine Is_guard ?_; first
      | refine G_guard_yes (by rw [hops.eq]; rfl) rfl (by simp) ?_
      | refine G_guard_no (by rw [hops.eq]; rfl) rfl rfl rfl ?_)
    | (refine Is_pick ?_; first
      | refine G_pick_t rfl rfl rfl ?_
      | refine G_pick_f rfl rfl rfl ?_)
    | refine GC_cond_t rfl ?_
    | refine GC_cond_f rfl ?_
    | refine GC_seq ?_
    | refine GC_region (fun ops hops => ?_)
    | (refine G_nil ?_; try clear hops; try clear ops)
    | refine At_then ?_
    | refine GC_skip ?_
    | refine GC_block ?_
    | refine GC_exit ?_
    | refine GC_ret ?_
    | refine At_then_exit ?_
    | refine At_then_ret ?_
    | refine At_block ?_
    | refine At_block_ret ?_
    | refine At_block_hit ?_
    | refine At_block_miss rfl ?_
    | refine At_round_exit ?_
    | refine At_round_ret ?_)
      exact At_round (k + 1) (by omega) (by omega) ⟨rfl, rfl, rfl, rfl, rfl, rfl, rfl, trivial⟩ (fun w1 hw1 => hw1)
    · obtain rfl : k = l.length + 1 := by omega
      repeat (first
    | (refine Is_move ?_; refine G_move rfl rfl ?_)
    | (refine Is_assign ?_; refine G_assign rfl rfl ?_)
    | (refine Is_bin ?_; first
      | refine G_lss_t rfl rfl (by omega) rfl ?_
      | refine G_lss_f rfl rfl (by omega) rfl ?_
      | refine G_lss rfl rfl rfl ?_
      | refine G_add rfl rfl rfl (by first | exact IntWalk.i64_in _ (by omega) | rfl) ?_
      | refine G_eql_t rfl rfl (by first | with_reducible rfl | assumption | decide +kernel | omega) rfl ?_
      | refine G_eql_f rfl rfl (by first | decide +kernel | omega | assumption) rfl ?_
      | refine G_eql rfl rfl rfl ?_
      | refine G_neq_f rfl rfl (by first | with_reducible rfl | assumption | decide +kernel | omega) rfl ?_
      | refine G_neq_t rfl rfl (by first | decide +kernel | omega | assumption) rfl ?_
      | refine G_neq rfl rfl rfl ?_
      | refine G_leq_t rfl rfl (by omega) rfl ?_
      | refine G_leq_f rfl rfl (by omega) rfl ?_
      | refine G_leq rfl rfl rfl ?_
      | refine G_gtr_t rfl rfl (by omega) rfl ?_
      | refine G_gtr_f rfl rfl (by omega) rfl ?_
      | refine G_gtr rfl rfl rfl ?_
      | refine G_geq_t rfl rfl (by omega) rfl ?_
      | refine G_geq_f rfl rfl (by omega) rfl ?_
      | refine G_geq rfl rfl rfl ?_
      | refine G_sub rfl rfl rfl (by first | exact IntWalk.i64_in _ (by omega) | rfl) ?_
      | refine G_mul rfl rfl rfl (by first | exact IntWalk.i64_in _ (by omega) | rfl) ?_
      | refine G_xor64 rfl rfl rfl ?_
      | refine G_mul64 rfl rfl rfl ?_
      | refine G_or64 rfl rfl rfl ?_
      | refine G_and64 rfl rfl rfl ?_
      | refine G_add64 rfl rfl rfl ?_
      | refine G_sub64 rfl rfl rfl ?_
      | refine G_shr64 rfl rfl rfl rfl ?_
      | refine G_shl64 rfl rfl rfl rfl ?_
      | refine G_eqlB rfl rfl rfl ?_
      | refine G_neqB rfl rfl rfl ?_)
    | (refine Is_load ?_; first
      | refine G_load rfl rfl rfl ?_
      | refine G_load_cell rfl (by first | assumption | (apply_assumption; done) | fail) rfl ?_)
    | (refine Is_store ?_; refine G_store rfl rfl rfl rfl rfl ?_)
    | (refine Is_builtin ?_; first
      | refine G_len rfl rfl ?_)
    | (refine Is_nilCheck ?_; refine G_nilCheck rfl rfl ?_)
    | (refine Is_convert ?_; first
      | refine G_u64_int rfl rfl ?_
      | refine G_to_u64 rfl rfl ?_
      | refine G_conv _ rfl rfl (by first | exact IntWalk.i64_in _ (by omega) | rfl) ?_)
    | (refine Is_fieldAddr ?_; refine G_fieldOff rfl rfl ?_)
    | (refine Is_indexAddr ?_; first
      | refine G_indexA rfl rfl (by first | decide | omega) rfl ?_
      | refine G_indexP rfl rfl (by first | assumption | omega) rfl ?_)
    | (refine Is_un ?_; refine G_not rfl rfl ?_)
    | (refine Is_makeFunc ?_; refine G_makeFunc rfl rfl rfl ?_)
    | (refine Is_extract ?_; refine G_extract rfl rfl rfl ?_)
    | (refine Is_guard ?_; first
      | refine G_guard_yes (by rw [hops.eq]; rfl) rfl (by simp) ?_
      | refine G_guard_no (by rw [hops.eq]; rfl) rfl rfl rfl ?_)
    | (refine Is_pick ?_; first
      | refine G_pick_t rfl rfl rfl ?_
      | refine G_pick_f rfl rfl rfl ?_)
    | refine GC_cond_t rfl ?_
    | refine GC_cond_f rfl ?_
    | refine GC_seq ?_
    | refine GC_region (fun ops hops => ?_)
    | (refine G_nil ?_; try clear hops; try clear ops)
    | refine At_then ?_
    | refine GC_skip ?_
    | refine GC_block ?_
    | refine GC_exit ?_
    | refine GC_ret ?_
    | refine At_then_exit ?_
    | refine At_then_ret ?_
    | refine At_block ?_
    | refine At_block_ret ?_
    | refine At_block_hit ?_
    | refine At_block_miss rfl ?_
    | refine At_round_exit ?_
    | refine At_round_ret ?_)
      refine GC_draw [0, 1, 2, 3, 4, 5, 6, 7, 8, 9, 10, 11, 12, 13, 14, 15, 16, 17, 18, 19, 20, 21, 22, 23, 24, 25, 26, 27, 28, 29, 30, 31, 32, 33, 34, 35, 36, 37, 38, 39, 40, 41, 42, 43, 44, 45, 46, 47, 48, 49, 50, 51, 52, 53, 54, 55, 56, 57, 58, 59, 60, 61, 62, 63, 64] [] 65 rfl (by kernel_rfl) (fun ops hops => ?_)
      repeat
        apply DR_x rfl rfl rfl
        (· intro mm
           (repeat (first
    | (refine Is_move ?_; refine G_move rfl rfl ?_)
    | (refine Is_assign ?_; refine G_assign rfl rfl ?_)
    | (refine Is_bin ?_; first
      | refine G_lss_t rfl rfl (by omega) rfl ?_
      | refine G_lss_f rfl rfl (by omega) rfl ?_
      | refine G_lss rfl rfl rfl ?_
      | refine G_add rfl rfl rfl (by first | exact IntWalk.i64_in _ (by omega) | rfl) ?_
      | refine G_eql_t rfl rfl (by first | with_reducible rfl | assumption | decide +kernel | omega) rfl ?_
      | refine G_eql_f rfl rfl (by first | decide +kernel | omega | assumption) rfl ?_
      | refine G_eql rfl rfl rfl ?_
      | refine G_neq_f rfl rfl (by first | with_reducible rfl | assumption | decide +kernel | omega) rfl ?_
      | refine G_neq_t rfl rfl (by first | decide +kernel | omega | assumption) rfl ?_
      | refine G_neq rfl rfl rfl ?_
      | refine G_leq_t rfl rfl (by omega) rfl ?_
      | refine G_leq_f rfl rfl (by omega) rfl ?_
      | refine G_leq rfl rfl rfl ?_
      | refine G_gtr_t rfl rfl (by omega) rfl ?_
      | refine G_gtr_f rfl rfl (by omega) rfl ?_
      | refine G_gtr rfl rfl rfl ?_
      | refine G_geq_t rfl rfl (by omega) rfl ?_
      | refine G_geq_f rfl rfl (by omega) rfl ?_
      | refine G_geq rfl rfl rfl ?_
      | refine G_sub rfl rfl rfl (by first | exact IntWalk.i64_in _ (by omega) | rfl) ?_
      | refine G_mul rfl rfl rfl (by first | exact IntWalk.i64_in _ (by omega) | rfl) ?_
      | refine G_xor64 rfl rfl rfl ?_
      | refine G_mul64 rfl rfl rfl ?_
      | refine G_or64 rfl rfl rfl ?_
      | refine G_and64 rfl rfl rfl ?_
      | refine G_add64 rfl rfl rfl ?_
      | refine G_sub64 rfl rfl rfl ?_
      | refine G_shr64 rfl rfl rfl rfl ?_
      | refine G_shl64 rfl rfl rfl rfl ?_
      | refine G_eqlB rfl rfl rfl ?_
      | refine G_neqB rfl rfl rfl ?_)
    | (refine Is_load ?_; first
      | refine G_load rfl rfl rfl ?_
      | refine G_load_cell rfl (by first | assumption | (apply_assumption; done) | fail) rfl ?_)
    | (refine Is_store ?_; refine G_store rfl rfl rfl rfl rfl ?_)
    | (refine Is_builtin ?_; first
      | refine G_len rfl rfl ?_)
    | (refine Is_nilCheck ?_; refine G_nilCheck rfl rfl ?_)
    | (refine Is_convert ?_; first
      | refine G_u64_int rfl rfl ?_
      | refine G_to_u64 rfl rfl ?_
      | refine G_conv _ rfl rfl (by first | exact IntWalk.i64_in _ (by omega) | rfl) ?_)
    | (refine Is_fieldAddr ?_; refine G_fieldOff rfl rfl ?_)
    | (refine Is_indexAddr ?_; first
      | refine G_indexA rfl rfl (by first | decide | omega) rfl ?_
      | refine G_indexP rfl rfl (by first | assumption | omega) rfl ?_)
    | (refine Is_un ?_; refine G_not rfl rfl ?_)
    | (refine Is_makeFunc ?_; refine G_makeFunc rfl rfl rfl ?_)
    | (refine Is_extract ?_; refine G_extract rfl rfl rfl ?_)
    | (refine Is_guard ?_; first
      | refine G_guard_yes (by rw [hops.eq]; rfl) rfl (by simp) ?_
      | refine G_guard_no (by rw [hops.eq]; rfl) rfl rfl rfl ?_)
    | (refine Is_pick ?_; first
      | refine G_pick_t rfl rfl rfl ?_
      | refine G_pick_f rfl rfl rfl ?_)
    | refine GC_cond_t rfl ?_
    | refine GC_cond_f rfl ?_
    | refine GC_seq ?_
    | refine GC_region (fun ops hops => ?_)
    | (refine G_nil ?_; try clear hops; try clear ops)
    | refine At_then ?_
    | refine GC_skip ?_
    | refine GC_block ?_
    | refine GC_exit ?_
    | refine GC_ret ?_
    | refine At_then_exit ?_
    | refine At_then_ret ?_
    | refine At_block ?_
    | refine At_block_ret ?_
    | refine At_block_hit ?_
    | refine At_block_miss rfl ?_
    | refine At_round_exit ?_
    | refine At_round_ret ?_))
           exact X_done rfl (List.Sublist.refl _))
      apply DR_x rfl rfl rfl
      · intro mm
        try refine G_guard_yes (by rw [hops.eq]; rfl) rfl (by simp) ?_
        refine G_call rfl (fun w1 hw1 => dig_Step z0 z1 w1) rfl ?_
        refine G_nil ?_
        (refine X_done rfl ?_; first | exact List.Sublist.refl _ | exact List.sublist_append_right _ _ | exact List.Sublist.cons _ (List.Sublist.refl _))
      repeat
        apply DR_x rfl rfl rfl
        (· intro mm
           (repeat (first
    | (refine Is_move ?_; refine G_move rfl rfl ?_)
    | (refine Is_assign ?_; refine G_assign rfl rfl ?_)
    | (refine Is_bin ?_; first
      | refine G_lss_t rfl rfl (by omega) rfl ?_
      | refine G_lss_f rfl rfl (by omega) rfl ?_
      | refine G_lss rfl rfl rfl ?_
      | refine G_add rfl rfl rfl (by first | exact IntWalk.i64_in _ (by omega) | rfl) ?_
      | refine G_eql_t rfl rfl (by first | with_reducible rfl | assumption | decide +kernel | omega) rfl ?_
      | refine G_eql_f rfl rfl (by first | decide +kernel | omega | assumption) rfl ?_
      | refine G_eql rfl rfl rfl ?_
      | refine G_neq_f rfl rfl (by first | with_reducible rfl | assumption | decide +kernel | omega) rfl ?_
      | refine G_neq_t rfl rfl (by first | decide +kernel | omega | assumption) rfl ?_
      | refine G_neq rfl rfl rfl ?_
      | refine G_leq_t rfl rfl (by omega) rfl ?_
      | refine G_leq_f rfl rfl (by omega) rfl ?_
      | refine G_leq rfl rfl rfl ?_
      | refine G_gtr_t rfl rfl (by omega) rfl ?_
      | refine G_gtr_f rfl rfl (by omega) rfl ?_
      | refine G_gtr rfl rfl rfl ?_
      | refine G_geq_t rfl rfl (by omega) rfl ?_
      | refine G_geq_f rfl rfl (by omega) rfl ?_
      | refine G_geq rfl rfl rfl ?_
      | refine G_sub rfl rfl rfl (by first | exact IntWalk.i64_in _ (by omega) | rfl) ?_
      | refine G_mul rfl rfl rfl (by first | exact IntWalk.i64_in _ (by omega) | rfl) ?_
      | refine G_xor64 rfl rfl rfl ?_
      | refine G_mul64 rfl rfl rfl ?_
      | refine G_or64 rfl rfl rfl ?_
      | refine G_and64 rfl rfl rfl ?_
      | refine G_add64 rfl rfl rfl ?_
      | refine G_sub64 rfl rfl rfl ?_
      | refine G_shr64 rfl rfl rfl rfl ?_
      | refine G_shl64 rfl rfl rfl rfl ?_
      | refine G_eqlB rfl rfl rfl ?_
      | refine G_neqB rfl rfl rfl ?_)
    | (refine Is_load ?_; first
      | refine G_load rfl rfl rfl ?_
      | refine G_load_cell rfl (by first | assumption | (apply_assumption; done) | fail) rfl ?_)
    | (refine Is_store ?_; refine G_store rfl rfl rfl rfl rfl ?_)
    | (refine Is_builtin ?_; first
      | refine G_len rfl rfl ?_)
    | (refine Is_nilCheck ?_; refine G_nilCheck rfl rfl ?_)
    | (refine Is_convert ?_; first
      | refine G_u64_int rfl rfl ?_
      | refine G_to_u64 rfl rfl ?_
      | refine G_conv _ rfl rfl (by first | exact IntWalk.i64_in _ (by omega) | rfl) ?_)
    | (refine Is_fieldAddr ?_; refine G_fieldOff rfl rfl ?_)
    | (refine Is_indexAddr ?_; first
      | refine G_indexA rfl rfl (by first | decide | omega) rfl ?_
      | refine G_indexP rfl rfl (by first | assumption | omega) rfl ?_)
    | (refine Is_un ?_; refine G_not rfl rfl ?_)
    | (refine Is_makeFunc ?_; refine G_makeFunc rfl rfl rfl ?_)
    | (refine Is_extract ?_; refine G_extract rfl rfl rfl ?_)
    | (refine Is_guard ?_; first
      | refine G_guard_yes (by rw [hops.eq]; rfl) rfl (by simp) ?_
      | refine G_guard_no (by rw [hops.eq]; rfl) rfl rfl rfl ?_)
    | (refine Is_pick ?_; first
      | refine G_pick_t rfl rfl rfl ?_
      | refine G_pick_f rfl rfl rfl ?_)
    | refine GC_cond_t rfl ?_
    | refine GC_cond_f rfl ?_
    | refine GC_seq ?_
    | refine GC_region (fun ops hops => ?_)
    | (refine G_nil ?_; try clear hops; try clear ops)
    | refine At_then ?_
    | refine GC_skip ?_
    | refine GC_block ?_
    | refine GC_exit ?_
    | refine GC_ret ?_
    | refine At_then_exit ?_
    | refine At_then_ret ?_
    | refine At_block ?_
    | refine At_block_ret ?_
    | refine At_block_hit ?_
    | refine At_block_miss rfl ?_
    | refine At_round_exit ?_
    | refine At_round_ret ?_))
           exact X_done rfl (List.Sublist.refl _))
      apply DR_x rfl rfl rfl
      · intro mm
        try refine G_guard_yes (by rw [hops.eq]; rfl) rfl (by simp) ?_
        refine G_call rfl (fun w1 hw1 => ref_Step z0 z1 w1) rfl ?_
        refine G_nil ?_
        (refine X_done rfl ?_; first | exact List.Sublist.refl _ | exact List.sublist_append_right _ _ | exact List.Sublist.cons _ (List.Sublist.refl _))
      repeat
        apply DR_x rfl rfl rfl
        (· intro mm
           (repeat (first
    | (refine Is_move ?_; refine G_move rfl rfl ?_)
    | (refine Is_assign ?_; refine G_assign rfl rfl ?_)
    | (refine Is_bin ?_; first
      | refine G_lss_t rfl rfl (by omega) rfl ?_
      | refine G_lss_f rfl rfl (by omega) rfl ?_
      | refine G_lss rfl rfl rfl ?_
      | refine G_add rfl rfl rfl (by first | exact IntWalk.i64_in _ (by omega) | rfl) ?_
      | refine G_eql_t rfl rfl (by first | with_reducible rfl | assumption | decide +kernel | omega) rfl ?_
      | refine G_eql_f rfl rfl (by first | decide +kernel | omega | assumption) rfl ?_
      | refine G_eql rfl rfl rfl ?_
      | refine G_neq_f rfl rfl (by first | with_reducible rfl | assumption | decide +kernel | omega) rfl ?_
      | refine G_neq_t rfl rfl (by first | decide +kernel | omega | assumption) rfl ?_
      | refine G_neq rfl rfl rfl ?_
      | refine G_leq_t rfl rfl (by omega) rfl ?_
      | refine G_leq_f rfl rfl (by omega) rfl ?_
      | refine G_leq rfl rfl rfl ?_
      | refine G_gtr_t rfl rfl (by omega) rfl ?_
      | refine G_gtr_f rfl rfl (by omega) rfl ?_
      | refine G_gtr rfl rfl rfl ?_
      | refine G_geq_t rfl rfl (by omega) rfl ?_
      | refine G_geq_f rfl rfl (by omega) rfl ?_
      | refine G_geq rfl rfl rfl ?_
      | refine G_sub rfl rfl rfl (by first | exact IntWalk.i64_in _ (by omega) | rfl) ?_
      | refine G_mul rfl rfl rfl (by first | exact IntWalk.i64_in _ (by omega) | rfl) ?_
      | refine G_xor64 rfl rfl rfl ?_
      | refine G_mul64 rfl rfl rfl ?_
      | refine G_or64 rfl rfl rfl ?_
      | refine G_and64 rfl rfl rfl ?_
      | refine G_add64 rfl rfl rfl ?_
      | refine G_sub64 rfl rfl rfl ?_
      | refine G_shr64 rfl rfl rfl rfl ?_
      | refine G_shl64 rfl rfl rfl rfl ?_
      | refine G_eqlB rfl rfl rfl ?_
      | refine G_neqB rfl rfl rfl ?_)
    | (refine Is_load ?_; first
      | refine G_load rfl rfl rfl ?_
      | refine G_load_cell rfl (by first | assumption | (apply_assumption; done) | fail) rfl ?_)
    | (refine Is_store ?_; refine G_store rfl rfl rfl rfl rfl ?_)
    | (refine Is_builtin ?_; first
      | refine G_len rfl rfl ?_)
    | (refine Is_nilCheck ?_; refine G_nilCheck rfl rfl ?_)
    | (refine Is_convert ?_; first
      | refine G_u64_int rfl rfl ?_
      | refine G_to_u64 rfl rfl ?_
      | refine G_conv _ rfl rfl (by first | exact IntWalk.i64_in _ (by omega) | rfl) ?_)
    | (refine Is_fieldAddr ?_; refine G_fieldOff rfl rfl ?_)
    | (refine Is_indexAddr ?_; first
      | refine G_indexA rfl rfl (by first | decide | omega) rfl ?_
      | refine G_indexP rfl rfl (by first | assumption | omega) rfl ?_)
    | (refine Is_un ?_; refine G_not rfl rfl ?_)
    | (refine Is_makeFunc ?_; refine G_makeFunc rfl rfl rfl ?_)
    | (refine Is_extract ?_; refine G_extract rfl rfl rfl ?_)
    | (refine Is_guard ?_; first
      | refine G_guard_yes (by rw [hops.eq]; rfl) rfl (by simp) ?_
      | refine G_guard_no (by rw [hops.eq]; rfl) rfl rfl rfl ?_)
    | (refine Is_pick ?_; first
      | refine G_pick_t rfl rfl rfl ?_
      | refine G_pick_f rfl rfl rfl ?_)
    | refine GC_cond_t rfl ?_
    | refine GC_cond_f rfl ?_
    | refine GC_seq ?_
    | refine GC_region (fun ops hops => ?_)
    | (refine G_nil ?_; try clear hops; try clear ops)
    | refine At_then ?_
    | refine GC_skip ?_
    | refine GC_block ?_
    | refine GC_exit ?_
    | refine GC_ret ?_
    | refine At_then_exit ?_
    | refine At_then_ret ?_
    | refine At_block ?_
    | refine At_block_ret ?_
    | refine At_block_hit ?_
    | refine At_block_miss rfl ?_
    | refine At_round_exit ?_
    | refine At_round_ret ?_))
           exact X_done rfl (List.Sublist.refl _))
      apply DR_x rfl rfl rfl
      · intro mm
        try refine G_guard_yes (by rw [hops.eq]; rfl) rfl (by simp) ?_
        refine G_call rfl (fun w1 hw1 => dig_Join z0 z1 w1) rfl ?_
        refine G_nil ?_
        (refine X_done rfl ?_; first | exact List.Sublist.refl _ | exact List.sublist_append_right _ _ | exact List.Sublist.cons _ (List.Sublist.refl _))
      repeat
        apply DR_x rfl rfl rfl
        (· intro mm
           (repeat (first
    | (refine Is_move ?_; refine G_move rfl rfl ?_)
    | (refine Is_assign ?_; refine G_assign rfl rfl ?_)
    | (refine Is_bin ?_; first
      | refine G_lss_t rfl rfl (by omega) rfl ?_
      | refine G_lss_f rfl rfl (by omega) rfl ?_
      | refine G_lss rfl rfl rfl ?_
      | refine G_add rfl rfl rfl (by first | exact IntWalk.i64_in _ (by omega) | rfl) ?_
      | refine G_eql_t rfl rfl (by first | with_reducible rfl | assumption | decide +kernel | omega) rfl ?_
      | refine G_eql_f rfl rfl (by first | decide +kernel | omega | assumption) rfl ?_
      | refine G_eql rfl rfl rfl ?_
      | refine G_neq_f rfl rfl (by first | with_reducible rfl | assumption | decide +kernel | omega) rfl ?_
      | refine G_neq_t rfl rfl (by first | decide +kernel | omega | assumption) rfl ?_
      | refine G_neq rfl rfl rfl ?_
      | refine G_leq_t rfl rfl (by omega) rfl ?_
      | refine G_leq_f rfl rfl (by omega) rfl ?_
      | refine G_leq rfl rfl rfl ?_
      | refine G_gtr_t rfl rfl (by omega) rfl ?_
      | refine G_gtr_f rfl rfl (by omega) rfl ?_
      | refine G_gtr rfl rfl rfl ?_
      | refine G_geq_t rfl rfl (by omega) rfl ?_
      | refine G_geq_f rfl rfl (by omega) rfl ?_
      | refine G_geq rfl rfl rfl ?_
      | refine G_sub rfl rfl rfl (by first | exact IntWalk.i64_in _ (by omega) | rfl) ?_
      | refine G_mul rfl rfl rfl (by first | exact IntWalk.i64_in _ (by omega) | rfl) ?_
      | refine G_xor64 rfl rfl rfl ?_
      | refine G_mul64 rfl rfl rfl ?_
      | refine G_or64 rfl rfl rfl ?_
      | refine G_and64 rfl rfl rfl ?_
      | refine G_add64 rfl rfl rfl ?_
      | refine G_sub64 rfl rfl rfl ?_
      | refine G_shr64 rfl rfl rfl rfl ?_
      | refine G_shl64 rfl rfl rfl rfl ?_
      | refine G_eqlB rfl rfl rfl ?_
      | refine G_neqB rfl rfl rfl ?_)
    | (refine Is_load ?_; first
      | refine G_load rfl rfl rfl ?_
      | refine G_load_cell rfl (by first | assumption | (apply_assumption; done) | fail) rfl ?_)
    | (refine Is_store ?_; refine G_store rfl rfl rfl rfl rfl ?_)
    | (refine Is_builtin ?_; first
      | refine G_len rfl rfl ?_)
    | (refine Is_nilCheck ?_; refine G_nilCheck rfl rfl ?_)
    | (refine Is_convert ?_; first
      | refine G_u64_int rfl rfl ?_
      | refine G_to_u64 rfl rfl ?_
      | refine G_conv _ rfl rfl (by first | exact IntWalk.i64_in _ (by omega) | rfl) ?_)
    | (refine Is_fieldAddr ?_; refine G_fieldOff rfl rfl ?_)
    | (refine Is_indexAddr ?_; first
      | refine G_indexA rfl rfl (by first | decide | omega) rfl ?_
      | refine G_indexP rfl rfl (by first | assumption | omega) rfl ?_)
    | (refine Is_un ?_; refine G_not rfl rfl ?_)
    | (refine Is_makeFunc ?_; refine G_makeFunc rfl rfl rfl ?_)
    | (refine Is_extract ?_; refine G_extract rfl rfl rfl ?_)
    | (refine Is_guard ?_; first
      | refine G_guard_yes (by rw [hops.eq]; rfl) rfl (by simp) ?_
      | refine G_guard_no (by rw [hops.eq]; rfl) rfl rfl rfl ?_)
    | (refine Is_pick ?_; first
      | refine G_pick_t rfl rfl rfl ?_
      | refine G_pick_f rfl rfl rfl ?_)
    | refine GC_cond_t rfl ?_
    | refine GC_cond_f rfl ?_
    | refine GC_seq ?_
    | refine GC_region (fun ops hops => ?_)
    | (refine G_nil ?_; try clear hops; try clear ops)
    | refine At_then ?_
    | refine GC_skip ?_
    | refine GC_block ?_
    | refine GC_exit ?_
    | refine GC_ret ?_
    | refine At_then_exit ?_
    | refine At_then_ret ?_
    | refine At_block ?_
    | refine At_block_ret ?_
    | refine At_block_hit ?_
    | refine At_block_miss rfl ?_
    | refine At_round_exit ?_
    | refine At_round_ret ?_))
           exact X_done rfl (List.Sublist.refl _))
      apply DR_x rfl rfl rfl
      · intro mm
        try refine G_guard_yes (by rw [hops.eq]; rfl) rfl (by simp) ?_
        refine G_call rfl (fun w1 hw1 => ref_Join z0 z1 w1) rfl ?_
        refine G_nil ?_
        (refine X_done rfl ?_; first | exact List.Sublist.refl _ | exact List.sublist_append_right _ _ | exact List.Sublist.cons _ (List.Sublist.refl _))
      repeat
        apply DR_x rfl rfl rfl
        (· intro mm
           (repeat (first
    | (refine Is_move ?_; refine G_move rfl rfl ?_)
    | (refine Is_assign ?_; refine G_assign rfl rfl ?_)
    | (refine Is_bin ?_; first
      | refine G_lss_t rfl rfl (by omega) rfl ?_
      | refine G_lss_f rfl rfl (by omega) rfl ?_
      | refine G_lss rfl rfl rfl ?_
      | refine G_add rfl rfl rfl (by first | exact IntWalk.i64_in _ (by omega) | rfl) ?_
      | refine G_eql_t rfl rfl (by first | with_reducible rfl | assumption | decide +kernel | omega) rfl ?_
      | refine G_eql_f rfl rfl (by first | decide +kernel | omega | assumption) rfl ?_
      | refine G_eql rfl rfl rfl ?_
      | refine G_neq_f rfl rfl (by first | with_reducible rfl | assumption | decide +kernel | omega) rfl ?_
      | refine G_neq_t rfl rfl (by first | decide +kernel | omega | assumption) rfl ?_
      | refine G_neq rfl rfl rfl ?_
      | refine G_leq_t rfl rfl (by omega) rfl ?_
      | refine G_leq_f rfl rfl (by omega) rfl ?_
      | refine G_leq rfl rfl rfl ?_
      | refine G_gtr_t rfl rfl (by omega) rfl ?_
      | refine G_gtr_f rfl rfl (by omega) rfl ?_
      | refine G_gtr rfl rfl rfl ?_
      | refine G_geq_t rfl rfl (by omega) rfl ?_
      | refine G_geq_f rfl rfl (by omega) rfl ?_
      | refine G_geq rfl rfl rfl ?_
      | refine G_sub rfl rfl rfl (by first | exact IntWalk.i64_in _ (by omega) | rfl) ?_
      | refine G_mul rfl rfl rfl (by first | exact IntWalk.i64_in _ (by omega) | rfl) ?_
      | refine G_xor64 rfl rfl rfl ?_
      | refine G_mul64 rfl rfl rfl ?_
      | refine G_or64 rfl rfl rfl ?_
      | refine G_and64 rfl rfl rfl ?_
      | refine G_add64 rfl rfl rfl ?_
      | refine G_sub64 rfl rfl rfl ?_
      | refine G_shr64 rfl rfl rfl rfl ?_
      | refine G_shl64 rfl rfl rfl rfl ?_
      | refine G_eqlB rfl rfl rfl ?_
      | refine G_neqB rfl rfl rfl ?_)
    | (refine Is_load ?_; first
      | refine G_load rfl rfl rfl ?_
      | refine G_load_cell rfl (by first | assumption | (apply_assumption; done) | fail) rfl ?_)
    | (refine Is_store ?_; refine G_store rfl rfl rfl rfl rfl ?_)
    | (refine Is_builtin ?_; first
      | refine G_len rfl rfl ?_)
    | (refine Is_nilCheck ?_; refine G_nilCheck rfl rfl ?_)
    | (refine Is_convert ?_; first
      | refine G_u64_int rfl rfl ?_
      | refine G_to_u64 rfl rfl ?_
      | refine G_conv _ rfl rfl (by first | exact IntWalk.i64_in _ (by omega) | rfl) ?_)
    | (refine Is_fieldAddr ?_; refine G_fieldOff rfl rfl ?_)
    | (refine Is_indexAddr ?_; first
      | refine G_indexA rfl rfl (by first | decide | omega) rfl ?_
      | refine G_indexP rfl rfl (by first | assumption | omega) rfl ?_)
    | (refine Is_un ?_; refine G_not rfl rfl ?_)
    | (refine Is_makeFunc ?_; refine G_makeFunc rfl rfl rfl ?_)
    | (refine Is_extract ?_; refine G_extract rfl rfl rfl ?_)
    | (refine Is_guard ?_; first
      | refine G_guard_yes (by rw [hops.eq]; rfl) rfl (by simp) ?_
      | refine G_guard_no (by rw [hops.eq]; rfl) rfl rfl rfl ?_)
    | (refine Is_pick ?_; first
      | refine G_pick_t rfl rfl rfl ?_
      | refine G_pick_f rfl rfl rfl ?_)
    | refine GC_cond_t rfl ?_
    | refine GC_cond_f rfl ?_
    | refine GC_seq ?_
    | refine GC_region (fun ops hops => ?_)
    | (refine G_nil ?_; try clear hops; try clear ops)
    | refine At_then ?_
    | refine GC_skip ?_
    | refine GC_block ?_
    | refine GC_exit ?_
    | refine GC_ret ?_
    | refine At_then_exit ?_
    | refine At_then_ret ?_
    | refine At_block ?_
    | refine At_block_ret ?_
    | refine At_block_hit ?_
    | refine At_block_miss rfl ?_
    | refine At_round_exit ?_
    | refine At_round_ret ?_))
           exact X_done rfl (List.Sublist.refl _))
      apply DR_x rfl rfl rfl
      · intro mm
        try refine G_guard_yes (by rw [hops.eq]; rfl) rfl (by simp) ?_
        refine G_call rfl (fun w1 hw1 => dig_Words _ l w1 (hL.now w1 hw1)) rfl ?_
        refine G_nil ?_
        (refine X_done rfl ?_; first | exact List.Sublist.refl _ | exact List.sublist_append_right _ _ | exact List.Sublist.cons _ (List.Sublist.refl _))
      repeat
        apply DR_x rfl rfl rfl
        (· intro mm
           (repeat (first
    | (refine Is_move ?_; refine G_move rfl rfl ?_)
    | (refine Is_assign ?_; refine G_assign rfl rfl ?_)
    | (refine Is_bin ?_; first
      | refine G_lss_t rfl rfl (by omega) rfl ?_
      | refine G_lss_f rfl rfl (by omega) rfl ?_
      | refine G_lss rfl rfl rfl ?_
      | refine G_add rfl rfl rfl (by first | exact IntWalk.i64_in _ (by omega) | rfl) ?_
      | refine G_eql_t rfl rfl (by first | with_reducible rfl | assumption | decide +kernel | omega) rfl ?_
      | refine G_eql_f rfl rfl (by first | decide +kernel | omega | assumption) rfl ?_
      | refine G_eql rfl rfl rfl ?_
      | refine G_neq_f rfl rfl (by first | with_reducible rfl | assumption | decide +kernel | omega) rfl ?_
      | refine G_neq_t rfl rfl (by first | decide +kernel | omega | assumption) rfl ?_
      | refine G_neq rfl rfl rfl ?_
      | refine G_leq_t rfl rfl (by omega) rfl ?_
      | refine G_leq_f rfl rfl (by omega) rfl ?_
      | refine G_leq rfl rfl rfl ?_
      | refine G_gtr_t rfl rfl (by omega) rfl ?_
      | refine G_gtr_f rfl rfl (by omega) rfl ?_
      | refine G_gtr rfl rfl rfl ?_
      | refine G_geq_t rfl rfl (by omega) rfl ?_
      | refine G_geq_f rfl rfl (by omega) rfl ?_
      | refine G_geq rfl rfl rfl ?_
      | refine G_sub rfl rfl rfl (by first | exact IntWalk.i64_in _ (by omega) | rfl) ?_
      | refine G_mul rfl rfl rfl (by first | exact IntWalk.i64_in _ (by omega) | rfl) ?_
      | refine G_xor64 rfl rfl rfl ?_
      | refine G_mul64 rfl rfl rfl ?_
      | refine G_or64 rfl rfl rfl ?_
      | refine G_and64 rfl rfl rfl ?_
      | refine G_add64 rfl rfl rfl ?_
      | refine G_sub64 rfl rfl rfl ?_
      | refine G_shr64 rfl rfl rfl rfl ?_
      | refine G_shl64 rfl rfl rfl rfl ?_
      | refine G_eqlB rfl rfl rfl ?_
      | refine G_neqB rfl rfl rfl ?_)
    | (refine Is_load ?_; first
      | refine G_load rfl rfl rfl ?_
      | refine G_load_cell rfl (by first | assumption | (apply_assumption; done) | fail) rfl ?_)
    | (refine Is_store ?_; refine G_store rfl rfl rfl rfl rfl ?_)
    | (refine Is_builtin ?_; first
      | refine G_len rfl rfl ?_)
    | (refine Is_nilCheck ?_; refine G_nilCheck rfl rfl ?_)
    | (refine Is_convert ?_; first
      | refine G_u64_int rfl rfl ?_
      | refine G_to_u64 rfl rfl ?_
      | refine G_conv _ rfl rfl (by first | exact IntWalk.i64_in _ (by omega) | rfl) ?_)
    | (refine Is_fieldAddr ?_; refine G_fieldOff rfl rfl ?_)
    | (refine Is_indexAddr ?_; first
      | refine G_indexA rfl rfl (by first | decide | omega) rfl ?_
      | refine G_indexP rfl rfl (by first | assumption | omega) rfl ?_)
    | (refine Is_un ?_; refine G_not rfl rfl ?_)
    | (refine Is_makeFunc ?_; refine G_makeFunc rfl rfl rfl ?_)
    | (refine Is_extract ?_; refine G_extract rfl rfl rfl ?_)
    | (refine Is_guard ?_; first
      | refine G_guard_yes (by rw [hops.eq]; rfl) rfl (by simp) ?_
      | refine G_guard_no (by rw [hops.eq]; rfl) rfl rfl rfl ?_)
    | (refine Is_pick ?_; first
      | refine G_pick_t rfl rfl rfl ?_
      | refine G_pick_f rfl rfl rfl ?_)
    | refine GC_cond_t rfl ?_
    | refine GC_cond_f rfl ?_
    | refine GC_seq ?_
    | refine GC_region (fun ops hops => ?_)
    | (refine G_nil ?_; try clear hops; try clear ops)
    | refine At_then ?_
    | refine GC_skip ?_
    | refine GC_block ?_
    | refine GC_exit ?_
    | refine GC_ret ?_
    | refine At_then_exit ?_
    | refine At_then_ret ?_
    | refine At_block ?_
    | refine At_block_ret ?_
    | refine At_block_hit ?_
    | refine At_block_miss rfl ?_
    | refine At_round_exit ?_
    | refine At_round_ret ?_))
           exact X_done rfl (List.Sublist.refl _))
      apply DR_x rfl rfl rfl
      · intro mm
        try refine G_guard_yes (by rw [hops.eq]; rfl) rfl (by simp) ?_
        refine G_call rfl (fun w1 hw1 => ref_Words _ l w1 (hL.now w1 hw1)) rfl ?_
        refine G_nil ?_
        (refine X_done rfl ?_; first | exact List.Sublist.refl _ | exact List.sublist_append_right _ _ | exact List.Sublist.cons _ (List.Sublist.refl _))
      repeat
        apply DR_x rfl rfl rfl
        (· intro mm
           (repeat (first
    | (refine Is_move ?_; refine G_move rfl rfl ?_)
    | (refine Is_assign ?_; refine G_assign rfl rfl ?_)
    | (refine Is_bin ?_; first
      | refine G_lss_t rfl rfl (by omega) rfl ?_
      | refine G_lss_f rfl rfl (by omega) rfl ?_
      | refine G_lss rfl rfl rfl ?_
      | refine G_add rfl rfl rfl (by first | exact IntWalk.i64_in _ (by omega) | rfl) ?_
      | refine G_eql_t rfl rfl (by first | with_reducible rfl | assumption | decide +kernel | omega) rfl ?_
      | refine G_eql_f rfl rfl (by first | decide +kernel | omega | assumption) rfl ?_
      | refine G_eql rfl rfl rfl ?_
      | refine G_neq_f rfl rfl (by first | with_reducible rfl | assumption | decide +kernel | omega) rfl ?_
      | refine G_neq_t rfl rfl (by first | decide +kernel | omega | assumption) rfl ?_
      | refine G_neq rfl rfl rfl ?_
      | refine G_leq_t rfl rfl (by omega) rfl ?_
      | refine G_leq_f rfl rfl (by omega) rfl ?_
      | refine G_leq rfl rfl rfl ?_
      | refine G_gtr_t rfl rfl (by omega) rfl ?_
      | refine G_gtr_f rfl rfl (by omega) rfl ?_
      | refine G_gtr rfl rfl rfl ?_
      | refine G_geq_t rfl rfl (by omega) rfl ?_
      | refine G_geq_f rfl rfl (by omega) rfl ?_
      | refine G_geq rfl rfl rfl ?_
      | refine G_sub rfl rfl rfl (by first | exact IntWalk.i64_in _ (by omega) | rfl) ?_
      | refine G_mul rfl rfl rfl (by first | exact IntWalk.i64_in _ (by omega) | rfl) ?_
      | refine G_xor64 rfl rfl rfl ?_
      | refine G_mul64 rfl rfl rfl ?_
      | refine G_or64 rfl rfl rfl ?_
      | refine G_and64 rfl rfl rfl ?_
      | refine G_add64 rfl rfl rfl ?_
      | refine G_sub64 rfl rfl rfl ?_
      | refine G_shr64 rfl rfl rfl rfl ?_
      | refine G_shl64 rfl rfl rfl rfl ?_
      | refine G_eqlB rfl rfl rfl ?_
      | refine G_neqB rfl rfl rfl ?_)
    | (refine Is_load ?_; first
      | refine G_load rfl rfl rfl ?_
      | refine G_load_cell rfl (by first | assumption | (apply_assumption; done) | fail) rfl ?_)
    | (refine Is_store ?_; refine G_store rfl rfl rfl rfl rfl ?_)
    | (refine Is_builtin ?_; first
      | refine G_len rfl rfl ?_)
    | (refine Is_nilCheck ?_; refine G_nilCheck rfl rfl ?_)
    | (refine Is_convert ?_; first
      | refine G_u64_int rfl rfl ?_
      | refine G_to_u64 rfl rfl ?_
      | refine G_conv _ rfl rfl (by first | exact IntWalk.i64_in _ (by omega) | rfl) ?_)
    | (refine Is_fieldAddr ?_; refine G_fieldOff rfl rfl ?_)
    | (refine Is_indexAddr ?_; first
      | refine G_indexA rfl rfl (by first | decide | omega) rfl ?_
      | refine G_indexP rfl rfl (by first | assumption | omega) rfl ?_)
    | (refine Is_un ?_; refine G_not rfl rfl ?_)
    | (refine Is_makeFunc ?_; refine G_makeFunc rfl rfl rfl ?_)
    | (refine Is_extract ?_; refine G_extract rfl rfl rfl ?_)
    | (refine Is_guard ?_; first
      | refine G_guard_yes (by rw [hops.eq]; rfl) rfl (by simp) ?_
      | refine G_guard_no (by rw [hops.eq]; rfl) rfl rfl rfl ?_)
    | (refine Is_pick ?_; first
      | refine G_pick_t rfl rfl rfl ?_
      | refine G_pick_f rfl rfl rfl ?_)
    | refine GC_cond_t rfl ?_
    | refine GC_cond_f rfl ?_
    | refine GC_seq ?_
    | refine GC_region (fun ops hops => ?_)
    | (refine G_nil ?_; try clear hops; try clear ops)
    | refine At_then ?_
    | refine GC_skip ?_
    | refine GC_block ?_
    | refine GC_exit ?_
    | refine GC_ret ?_
    | refine At_then_exit ?_
    | refine At_then_ret ?_
    | refine At_block ?_
    | refine At_block_ret ?_
    | refine At_block_hit ?_
    | refine At_block_miss rfl ?_
    | refine At_round_exit ?_
    | refine At_round_ret ?_))
           exact X_done rfl (List.Sublist.refl _))
      apply DR_x rfl rfl rfl
      · intro mm
        try refine G_guard_yes (by rw [hops.eq]; rfl) rfl (by simp) ?_
        refine G_call rfl (fun w1 hw1 => dig_Bytes _ bs w1 (hB.now w1 hw1)) rfl ?_
        refine G_nil ?_
        (refine X_done rfl ?_; first | exact List.Sublist.refl _ | exact List.sublist_append_right _ _ | exact List.Sublist.cons _ (List.Sublist.refl _))
      repeat
        apply DR_x rfl rfl rfl
        (· intro mm
           (repeat (first
    | (refine Is_move ?_; refine G_move rfl rfl ?_)
    | (refine Is_assign ?_; refine G_assign rfl rfl ?_)
    | (refine Is_bin ?_; first
      | refine G_lss_t rfl rfl (by omega) rfl ?_
      | refine G_lss_f rfl rfl (by omega) rfl ?_
      | refine G_lss rfl rfl rfl ?_
      | refine G_add rfl rfl rfl (by first | exact IntWalk.i64_in _ (by omega) | rfl) ?_
      | refine G_eql_t rfl rfl (by first | with_reducible rfl | assumption | decide +kernel | omega) rfl ?_
      | refine G_eql_f rfl rfl (by first | decide +kernel | omega | assumption) rfl ?_
      | refine G_eql rfl rfl rfl ?_
      | refine G_neq_f rfl rfl (by first | with_reducible rfl | assumption | decide +kernel | omega) rfl ?_
      | refine G_neq_t rfl rfl (by first | decide +kernel | omega | assumption) rfl ?_
      | refine G_neq rfl rfl rfl ?_
      | refine G_leq_t rfl rfl (by omega) rfl ?_
      | refine G_leq_f rfl rfl (by omega) rfl ?_
      | refine G_leq rfl rfl rfl ?_
      | refine G_gtr_t rfl rfl (by omega) rfl ?_
      | refine G_gtr_f rfl rfl (by omega) rfl ?_
      | refine G_gtr rfl rfl rfl ?_
      | refine G_geq_t rfl rfl (by omega) rfl ?_
      | refine G_geq_f rfl rfl (by omega) rfl ?_
      | refine G_geq rfl rfl rfl ?_
      | refine G_sub rfl rfl rfl (by first | exact IntWalk.i64_in _ (by omega) | rfl) ?_
      | refine G_mul rfl rfl rfl (by first | exact IntWalk.i64_in _ (by omega) | rfl) ?_
      | refine G_xor64 rfl rfl rfl ?_
      | refine G_mul64 rfl rfl rfl ?_
      | refine G_or64 rfl rfl rfl ?_
      | refine G_and64 rfl rfl rfl ?_
      | refine G_add64 rfl rfl rfl ?_
      | refine G_sub64 rfl rfl rfl ?_
      | refine G_shr64 rfl rfl rfl rfl ?_
      | refine G_shl64 rfl rfl rfl rfl ?_
      | refine G_eqlB rfl rfl rfl ?_
      | refine G_neqB rfl rfl rfl ?_)
    | (refine Is_load ?_; first
      | refine G_load rfl rfl rfl ?_
      | refine G_load_cell rfl (by first | assumption | (apply_assumption; done) | fail) rfl ?_)
    | (refine Is_store ?_; refine G_store rfl rfl rfl rfl rfl ?_)
    | (refine Is_builtin ?_; first
      | refine G_len rfl rfl ?_)
    | (refine Is_nilCheck ?_; refine G_nilCheck rfl rfl ?_)
    | (refine Is_convert ?_; first
      | refine G_u64_int rfl rfl ?_
      | refine G_to_u64 rfl rfl ?_
      | refine G_conv _ rfl rfl (by first | exact IntWalk.i64_in _ (by omega) | rfl) ?_)
    | (refine Is_fieldAddr ?_; refine G_fieldOff rfl rfl ?_)
    | (refine Is_indexAddr ?_; first
      | refine G_indexA rfl rfl (by first | decide | omega) rfl ?_
      | refine G_indexP rfl rfl (by first | assumption | omega) rfl ?_)
    | (refine Is_un ?_; refine G_not rfl rfl ?_)
    | (refine Is_makeFunc ?_; refine G_makeFunc rfl rfl rfl ?_)
    | (refine Is_extract ?_; refine G_extract rfl rfl rfl ?_)
    | (refine Is_guard ?_; first
      | refine G_guard_yes (by rw [hops.eq]; rfl) rfl (by simp) ?_
      | refine G_guard_no (by rw [hops.eq]; rfl) rfl rfl rfl ?_)
    | (refine Is_pick ?_; first
      | refine G_pick_t rfl rfl rfl ?_
      | refine G_pick_f rfl rfl rfl ?_)
    | refine GC_cond_t rfl ?_
    | refine GC_cond_f rfl ?_
    | refine GC_seq ?_
    | refine GC_region (fun ops hops => ?_)
    | (refine G_nil ?_; try clear hops; try clear ops)
    | refine At_then ?_
    | refine GC_skip ?_
    | refine GC_block ?_
    | refine GC_exit ?_
    | refine GC_ret ?_
    | refine At_then_exit ?_
    | refine At_then_ret ?_
    | refine At_block ?_
    | refine At_block_ret ?_
    | refine At_block_hit ?_
    | refine At_block_miss rfl ?_
    | refine At_round_exit ?_
    | refine At_round_ret ?_))
           exact X_done rfl (List.Sublist.refl _))
      apply DR_x rfl rfl rfl
      · intro mm
        try refine G_guard_yes (by rw [hops.eq]; rfl) rfl (by simp) ?_
        refine G_call rfl (fun w1 hw1 => ref_Bytes _ bs w1 (hB.now w1 hw1) (by omega)) rfl ?_
        refine G_nil ?_
        (refine X_done rfl ?_; first | exact List.Sublist.refl _ | exact List.sublist_append_right _ _ | exact List.Sublist.cons _ (List.Sublist.refl _))
      repeat
        apply DR_x rfl rfl rfl
        (· intro mm
           (repeat (first
    | (refine Is_move ?_; refine G_move rfl rfl ?_)
    | (refine Is_assign ?_; refine G_assign rfl rfl ?_)
    | (refine Is_bin ?_; first
      | refine G_lss_t rfl rfl (by omega) rfl ?_
      | refine G_lss_f rfl rfl (by omega) rfl ?_
      | refine G_lss rfl rfl rfl ?_
      | refine G_add rfl rfl rfl (by first | exact IntWalk.i64_in _ (by omega) | rfl) ?_
      | refine G_eql_t rfl rfl (by first | with_reducible rfl | assumption | decide +kernel | omega) rfl ?_
      | refine G_eql_f rfl rfl (by first | decide +kernel | omega | assumption) rfl ?_
      | refine G_eql rfl rfl rfl ?_
      | refine G_neq_f rfl rfl (by first | with_reducible rfl | assumption | decide +kernel | omega) rfl ?_
      | refine G_neq_t rfl rfl (by first | decide +kernel | omega | assumption) rfl ?_
      | refine G_neq rfl rfl rfl ?_
      | refine G_leq_t rfl rfl (by omega) rfl ?_
      | refine G_leq_f rfl rfl (by omega) rfl ?_
      | refine G_leq rfl rfl rfl ?_
      | refine G_gtr_t rfl rfl (by omega) rfl ?_
      | refine G_gtr_f rfl rfl (by omega) rfl ?_
      | refine G_gtr rfl rfl rfl ?_
      | refine G_geq_t rfl rfl (by omega) rfl ?_
      | refine G_geq_f rfl rfl (by omega) rfl ?_
      | refine G_geq rfl rfl rfl ?_
      | refine G_sub rfl rfl rfl (by first | exact IntWalk.i64_in _ (by omega) | rfl) ?_
      | refine G_mul rfl rfl rfl (by first | exact IntWalk.i64_in _ (by omega) | rfl) ?_
      | refine G_xor64 rfl rfl rfl ?_
      | refine G_mul64 rfl rfl rfl ?_
      | refine G_or64 rfl rfl rfl ?_
      | refine G_and64 rfl rfl rfl ?_
      | refine G_add64 rfl rfl rfl ?_
      | refine G_sub64 rfl rfl rfl ?_
      | refine G_shr64 rfl rfl rfl rfl ?_
      | refine G_shl64 rfl rfl rfl rfl ?_
      | refine G_eqlB rfl rfl rfl ?_
      | refine G_neqB rfl rfl rfl ?_)
    | (refine Is_load ?_; first
      | refine G_load rfl rfl rfl ?_
      | refine G_load_cell rfl (by first | assumption | (apply_assumption; done) | fail) rfl ?_)
    | (refine Is_store ?_; refine G_store rfl rfl rfl rfl rfl ?_)
    | (refine Is_builtin ?_; first
      | refine G_len rfl rfl ?_)
    | (refine Is_nilCheck ?_; refine G_nilCheck rfl rfl ?_)
    | (refine Is_convert ?_; first
      | refine G_u64_int rfl rfl ?_
      | refine G_to_u64 rfl rfl ?_
      | refine G_conv _ rfl rfl (by first | exact IntWalk.i64_in _ (by omega) | rfl) ?_)
    | (refine Is_fieldAddr ?_; refine G_fieldOff rfl rfl ?_)
    | (refine Is_indexAddr ?_; first
      | refine G_indexA rfl rfl (by first | decide | omega) rfl ?_
      | refine G_indexP rfl rfl (by first | assumption | omega) rfl ?_)
    | (refine Is_un ?_; refine G_not rfl rfl ?_)
    | (refine Is_makeFunc ?_; refine G_makeFunc rfl rfl rfl ?_)
    | (refine Is_extract ?_; refine G_extract rfl rfl rfl ?_)
    | (refine Is_guard ?_; first
      | refine G_guard_yes (by rw [hops.eq]; rfl) rfl (by simp) ?_
      | refine G_guard_no (by rw [hops.eq]; rfl) rfl rfl rfl ?_)
    | (refine Is_pick ?_; first
      | refine G_pick_t rfl rfl rfl ?_
      | refine G_pick_f rfl rfl rfl ?_)
    | refine GC_cond_t rfl ?_
    | refine GC_cond_f rfl ?_
    | refine GC_seq ?_
    | refine GC_region (fun ops hops => ?_)
    | (refine G_nil ?_; try clear hops; try clear ops)
    | refine At_then ?_
    | refine GC_skip ?_
    | refine GC_block ?_
    | refine GC_exit ?_
    | refine GC_ret ?_
    | refine At_then_exit ?_
    | refine At_then_ret ?_
    | refine At_block ?_
    | refine At_block_ret ?_
    | refine At_block_hit ?_
    | refine At_block_miss rfl ?_
    | refine At_round_exit ?_
    | refine At_round_ret ?_))
           exact X_done rfl (List.Sublist.refl _))
      apply DR_x rfl rfl rfl
      · intro mm
        try refine G_guard_yes (by rw [hops.eq]; rfl) rfl (by simp) ?_
        refine G_call rfl (fun w1 hw1 => law_bucket z0 n (by omega) (by omega) w1) rfl ?_
        refine G_nil ?_
        (refine X_done rfl ?_; first | exact List.Sublist.refl _ | exact List.sublist_append_right _ _ | exact List.Sublist.cons _ (List.Sublist.refl _))
      repeat
        apply DR_x rfl rfl rfl
        (· intro mm
           (repeat (first
    | (refine Is_move ?_; refine G_move rfl rfl ?_)
    | (refine Is_assign ?_; refine G_assign rfl rfl ?_)
    | (refine Is_bin ?_; first
      | refine G_lss_t rfl rfl (by omega) rfl ?_
      | refine G_lss_f rfl rfl (by omega) rfl ?_
      | refine G_lss rfl rfl rfl ?_
      | refine G_add rfl rfl rfl (by first | exact IntWalk.i64_in _ (by omega) | rfl) ?_
      | refine G_eql_t rfl rfl (by first | with_reducible rfl | assumption | decide +kernel | omega) rfl ?_
      | refine G_eql_f rfl rfl (by first | decide +kernel | omega | assumption) rfl ?_
      | refine G_eql rfl rfl rfl ?_
      | refine G_neq_f rfl rfl (by first | with_reducible rfl | assumption | decide +kernel | omega) rfl ?_
      | refine G_neq_t rfl rfl (by first | decide +kernel | omega | assumption) rfl ?_
      | refine G_neq rfl rfl rfl ?_
      | refine G_leq_t rfl rfl (by omega) rfl ?_
      | refine G_leq_f rfl rfl (by omega) rfl ?_
      | refine G_leq rfl rfl rfl ?_
      | refine G_gtr_t rfl rfl (by omega) rfl ?_
      | refine G_gtr_f rfl rfl (by omega) rfl ?_
      | refine G_gtr rfl rfl rfl ?_
      | refine G_geq_t rfl rfl (by omega) rfl ?_
      | refine G_geq_f rfl rfl (by omega) rfl ?_
      | refine G_geq rfl rfl rfl ?_
      | refine G_sub rfl rfl rfl (by first | exact IntWalk.i64_in _ (by omega) | rfl) ?_
      | refine G_mul rfl rfl rfl (by first | exact IntWalk.i64_in _ (by omega) | rfl) ?_
      | refine G_xor64 rfl rfl rfl ?_
      | refine G_mul64 rfl rfl rfl ?_
      | refine G_or64 rfl rfl rfl ?_
      | refine G_and64 rfl rfl rfl ?_
      | refine G_add64 rfl rfl rfl ?_
      | refine G_sub64 rfl rfl rfl ?_
      | refine G_shr64 rfl rfl rfl rfl ?_
      | refine G_shl64 rfl rfl rfl rfl ?_
      | refine G_eqlB rfl rfl rfl ?_
      | refine G_neqB rfl rfl rfl ?_)
    | (refine Is_load ?_; first
      | refine G_load rfl rfl rfl ?_
      | refine G_load_cell rfl (by first | assumption | (apply_assumption; done) | fail) rfl ?_)
    | (refine Is_store ?_; refine G_store rfl rfl rfl rfl rfl ?_)
    | (refine Is_builtin ?_; first
      | refine G_len rfl rfl ?_)
    | (refine Is_nilCheck ?_; refine G_nilCheck rfl rfl ?_)
    | (refine Is_convert ?_; first
      | refine G_u64_int rfl rfl ?_
      | refine G_to_u64 rfl rfl ?_
      | refine G_conv _ rfl rfl (by first | exact IntWalk.i64_in _ (by omega) | rfl) ?_)
    | (refine Is_fieldAddr ?_; refine G_fieldOff rfl rfl ?_)
    | (refine Is_indexAddr ?_; first
      | refine G_indexA rfl rfl (by first | decide | omega) rfl ?_
      | refine G_indexP rfl rfl (by first | assumption | omega) rfl ?_)
    | (refine Is_un ?_; refine G_not rfl rfl ?_)
    | (refine Is_makeFunc ?_; refine G_makeFunc rfl rfl rfl ?_)
    | (refine Is_extract ?_; refine G_extract rfl rfl rfl ?_)
    | (refine Is_guard ?_; first
      | refine G_guard_yes (by rw [hops.eq]; rfl) rfl (by simp) ?_
      | refine G_guard_no (by rw [hops.eq]; rfl) rfl rfl rfl ?_)
    | (refine Is_pick ?_; first
      | refine G_pick_t rfl rfl rfl ?_
      | refine G_pick_f rfl rfl rfl ?_)
    | refine GC_cond_t rfl ?_
    | refine GC_cond_f rfl ?_
    | refine GC_seq ?_
    | refine GC_region (fun ops hops => ?_)
    | (refine G_nil ?_; try clear hops; try clear ops)
    | refine At_then ?_
    | refine GC_skip ?_
    | refine GC_block ?_
    | refine GC_exit ?_
    | refine GC_ret ?_
    | refine At_then_exit ?_
    | refine At_then_ret ?_
    | refine At_block ?_
    | refine At_block_ret ?_
    | refine At_block_hit ?_
    | refine At_block_miss rfl ?_
    | refine At_round_exit ?_
    | refine At_round_ret ?_))
           exact X_done rfl (List.Sublist.refl _))
      apply DR_x rfl rfl rfl
      · intro mm
        try refine G_guard_yes (by rw [hops.eq]; rfl) rfl (by simp) ?_
        refine G_call rfl (fun w1 hw1 => ref_BucketIn z0 n w1) rfl ?_
        refine G_nil ?_
        (refine X_done rfl ?_; first | exact List.Sublist.refl _ | exact List.sublist_append_right _ _ | exact List.Sublist.cons _ (List.Sublist.refl _))
      repeat
        apply DR_x rfl rfl rfl
        (· intro mm
           (repeat (first
    | (refine Is_move ?_; refine G_move rfl rfl ?_)
    | (refine Is_assign ?_; refine G_assign rfl rfl ?_)
    | (refine Is_bin ?_; first
      | refine G_lss_t rfl rfl (by omega) rfl ?_
      | refine G_lss_f rfl rfl (by omega) rfl ?_
      | refine G_lss rfl rfl rfl ?_
      | refine G_add rfl rfl rfl (by first | exact IntWalk.i64_in _ (by omega) | rfl) ?_
      | refine G_eql_t rfl rfl (by first | with_reducible rfl | assumption | decide +kernel | omega) rfl ?_
      | refine G_eql_f rfl rfl (by first | decide +kernel | omega | assumption) rfl ?_
      | refine G_eql rfl rfl rfl ?_
      | refine G_neq_f rfl rfl (by first | with_reducible rfl | assumption | decide +kernel | omega) rfl ?_
      | refine G_neq_t rfl rfl (by first | decide +kernel | omega | assumption) rfl ?_
      | refine G_neq rfl rfl rfl ?_
      | refine G_leq_t rfl rfl (by omega) rfl ?_
      | refine G_leq_f rfl rfl (by omega) rfl ?_
      | refine G_leq rfl rfl rfl ?_
      | refine G_gtr_t rfl rfl (by omega) rfl ?_
      | refine G_gtr_f rfl rfl (by omega) rfl ?_
      | refine G_gtr rfl rfl rfl ?_
      | refine G_geq_t rfl rfl (by omega) rfl ?_
      | refine G_geq_f rfl rfl (by omega) rfl ?_
      | refine G_geq rfl rfl rfl ?_
      | refine G_sub rfl rfl rfl (by first | exact IntWalk.i64_in _ (by omega) | rfl) ?_
      | refine G_mul rfl rfl rfl (by first | exact IntWalk.i64_in _ (by omega) | rfl) ?_
      | refine G_xor64 rfl rfl rfl ?_
      | refine G_mul64 rfl rfl rfl ?_
      | refine G_or64 rfl rfl rfl ?_
      | refine G_and64 rfl rfl rfl ?_
      | refine G_add64 rfl rfl rfl ?_
      | refine G_sub64 rfl rfl rfl ?_
      | refine G_shr64 rfl rfl rfl rfl ?_
      | refine G_shl64 rfl rfl rfl rfl ?_
      | refine G_eqlB rfl rfl rfl ?_
      | refine G_neqB rfl rfl rfl ?_)
    | (refine Is_load ?_; first
      | refine G_load rfl rfl rfl ?_
      | refine G_load_cell rfl (by first | assumption | (apply_assumption; done) | fail) rfl ?_)
    | (refine Is_store ?_; refine G_store rfl rfl rfl rfl rfl ?_)
    | (refine Is_builtin ?_; first
      | refine G_len rfl rfl ?_)
    | (refine Is_nilCheck ?_; refine G_nilCheck rfl rfl ?_)
    | (refine Is_convert ?_; first
      | refine G_u64_int rfl rfl ?_
      | refine G_to_u64 rfl rfl ?_
      | refine G_conv _ rfl rfl (by first | exact IntWalk.i64_in _ (by omega) | rfl) ?_)
    | (refine Is_fieldAddr ?_; refine G_fieldOff rfl rfl ?_)
    | (refine Is_indexAddr ?_; first
      | refine G_indexA rfl rfl (by first | decide | omega) rfl ?_
      | refine G_indexP rfl rfl (by first | assumption | omega) rfl ?_)
    | (refine Is_un ?_; refine G_not rfl rfl ?_)
    | (refine Is_makeFunc ?_; refine G_makeFunc rfl rfl rfl ?_)
    | (refine Is_extract ?_; refine G_extract rfl rfl rfl ?_)
    | (refine Is_guard ?_; first
      | refine G_guard_yes (by rw [hops.eq]; rfl) rfl (by simp) ?_
      | refine G_guard_no (by rw [hops.eq]; rfl) rfl rfl rfl ?_)
    | (refine Is_pick ?_; first
      | refine G_pick_t rfl rfl rfl ?_
      | refine G_pick_f rfl rfl rfl ?_)
    | refine GC_cond_t rfl ?_
    | refine GC_cond_f rfl ?_
    | refine GC_seq ?_
    | refine GC_region (fun ops hops => ?_)
    | (refine G_nil ?_; try clear hops; try clear ops)
    | refine At_then ?_
    | refine GC_skip ?_
    | refine GC_block ?_
    | refine GC_exit ?_
    | refine GC_ret ?_
    | refine At_then_exit ?_
    | refine At_then_ret ?_
    | refine At_block ?_
    | refine At_block_ret ?_
    | refine At_block_hit ?_
    | refine At_block_miss rfl ?_
    | refine At_round_exit ?_
    | refine At_round_ret ?_))
           exact X_done rfl (List.Sublist.refl _))
      apply DR_x rfl rfl rfl
      · intro mm
        try refine G_guard_yes (by rw [hops.eq]; rfl) rfl (by simp) ?_
        refine G_eqlS (b := true) rfl rfl rfl rfl (sames_self _ [.int .i64, .int .i64] rfl) rfl ?_
        refine G_nil ?_
        (refine X_done rfl ?_; first | exact List.Sublist.refl _ | exact List.sublist_append_right _ _ | exact List.Sublist.cons _ (List.Sublist.refl _))
      repeat
        apply DR_x rfl rfl rfl
        (· intro mm
           (repeat (first
    | (refine Is_move ?_; refine G_move rfl rfl ?_)
    | (refine Is_assign ?_; refine G_assign rfl rfl ?_)
    | (refine Is_bin ?_; first
      | refine G_lss_t rfl rfl (by omega) rfl ?_
      | refine G_lss_f rfl rfl (by omega) rfl ?_
      | refine G_lss rfl rfl rfl ?_
      | refine G_add rfl rfl rfl (by first | exact IntWalk.i64_in _ (by omega) | rfl) ?_
      | refine G_eql_t rfl rfl (by first | with_reducible rfl | assumption | decide +kernel | omega) rfl ?_
      | refine G_eql_f rfl rfl (by first | decide +kernel | omega | assumption) rfl ?_
      | refine G_eql rfl rfl rfl ?_
      | refine G_neq_f rfl rfl (by first | with_reducible rfl | assumption | decide +kernel | omega) rfl ?_
      | refine G_neq_t rfl rfl (by first | decide +kernel | omega | assumption) rfl ?_
      | refine G_neq rfl rfl rfl ?_
      | refine G_leq_t rfl rfl (by omega) rfl ?_
      | refine G_leq_f rfl rfl (by omega) rfl ?_
      | refine G_leq rfl rfl rfl ?_
      | refine G_gtr_t rfl rfl (by omega) rfl ?_
      | refine G_gtr_f rfl rfl (by omega) rfl ?_
      | refine G_gtr rfl rfl rfl ?_
      | refine G_geq_t rfl rfl (by omega) rfl ?_
      | refine G_geq_f rfl rfl (by omega) rfl ?_
      | refine G_geq rfl rfl rfl ?_
      | refine G_sub rfl rfl rfl (by first | exact IntWalk.i64_in _ (by omega) | rfl) ?_
      | refine G_mul rfl rfl rfl (by first | exact IntWalk.i64_in _ (by omega) | rfl) ?_
      | refine G_xor64 rfl rfl rfl ?_
      | refine G_mul64 rfl rfl rfl ?_
      | refine G_or64 rfl rfl rfl ?_
      | refine G_and64 rfl rfl rfl ?_
      | refine G_add64 rfl rfl rfl ?_
      | refine G_sub64 rfl rfl rfl ?_
      | refine G_shr64 rfl rfl rfl rfl ?_
      | refine G_shl64 rfl rfl rfl rfl ?_
      | refine G_eqlB rfl rfl rfl ?_
      | refine G_neqB rfl rfl rfl ?_)
    | (refine Is_load ?_; first
      | refine G_load rfl rfl rfl ?_
      | refine G_load_cell rfl (by first | assumption | (apply_assumption; done) | fail) rfl ?_)
    | (refine Is_store ?_; refine G_store rfl rfl rfl rfl rfl ?_)
    | (refine Is_builtin ?_; first
      | refine G_len rfl rfl ?_)
    | (refine Is_nilCheck ?_; refine G_nilCheck rfl rfl ?_)
    | (refine Is_convert ?_; first
      | refine G_u64_int rfl rfl ?_
      | refine G_to_u64 rfl rfl ?_
      | refine G_conv _ rfl rfl (by first | exact IntWalk.i64_in _ (by omega) | rfl) ?_)
    | (refine Is_fieldAddr ?_; refine G_fieldOff rfl rfl ?_)
    | (refine Is_indexAddr ?_; first
      | refine G_indexA rfl rfl (by first | decide | omega) rfl ?_
      | refine G_indexP rfl rfl (by first | assumption | omega) rfl ?_)
    | (refine Is_un ?_; refine G_not rfl rfl ?_)
    | (refine Is_makeFunc ?_; refine G_makeFunc rfl rfl rfl ?_)
    | (refine Is_extract ?_; refine G_extract rfl rfl rfl ?_)
    | (refine Is_guard ?_; first
      | refine G_guard_yes (by rw [hops.eq]; rfl) rfl (by simp) ?_
      | refine G_guard_no (by rw [hops.eq]; rfl) rfl rfl rfl ?_)
    | (refine Is_pick ?_; first
      | refine G_pick_t rfl rfl rfl ?_
      | refine G_pick_f rfl rfl rfl ?_)
    | refine GC_cond_t rfl ?_
    | refine GC_cond_f rfl ?_
    | refine GC_seq ?_
    | refine GC_region (fun ops hops => ?_)
    | (refine G_nil ?_; try clear hops; try clear ops)
    | refine At_then ?_
    | refine GC_skip ?_
    | refine GC_block ?_
    | refine GC_exit ?_
    | refine GC_ret ?_
    | refine At_then_exit ?_
    | refine At_then_ret ?_
    | refine At_block ?_
    | refine At_block_ret ?_
    | refine At_block_hit ?_
    | refine At_block_miss rfl ?_
    | refine At_round_exit ?_
    | refine At_round_ret ?_))
           exact X_done rfl (List.Sublist.refl _))
      apply DR_x rfl rfl rfl
      · intro mm
        try refine G_guard_yes (by rw [hops.eq]; rfl) rfl (by simp) ?_
        refine G_rem rfl rfl (by omega) rfl (r := r) hr.symm ?_
        refine G_nil ?_
        (refine X_done rfl ?_; first | exact List.Sublist.refl _ | exact List.sublist_append_right _ _ | exact List.Sublist.cons _ (List.Sublist.refl _))
      repeat
        apply DR_x rfl rfl rfl
        (· intro mm
           (repeat (first
    | (refine Is_move ?_; refine G_move rfl rfl ?_)
    | (refine Is_assign ?_; refine G_assign rfl rfl ?_)
    | (refine Is_bin ?_; first
      | refine G_lss_t rfl rfl (by omega) rfl ?_
      | refine G_lss_f rfl rfl (by omega) rfl ?_
      | refine G_lss rfl rfl rfl ?_
      | refine G_add rfl rfl rfl (by first | exact IntWalk.i64_in _ (by omega) | rfl) ?_
      | refine G_eql_t rfl rfl (by first | with_reducible rfl | assumption | decide +kernel | omega) rfl ?_
      | refine G_eql_f rfl rfl (by first | decide +kernel | omega | assumption) rfl ?_
      | refine G_eql rfl rfl rfl ?_
      | refine G_neq_f rfl rfl (by first | with_reducible rfl | assumption | decide +kernel | omega) rfl ?_
      | refine G_neq_t rfl rfl (by first | decide +kernel | omega | assumption) rfl ?_
      | refine G_neq rfl rfl rfl ?_
      | refine G_leq_t rfl rfl (by omega) rfl ?_
      | refine G_leq_f rfl rfl (by omega) rfl ?_
      | refine G_leq rfl rfl rfl ?_
      | refine G_gtr_t rfl rfl (by omega) rfl ?_
      | refine G_gtr_f rfl rfl (by omega) rfl ?_
      | refine G_gtr rfl rfl rfl ?_
      | refine G_geq_t rfl rfl (by omega) rfl ?_
      | refine G_geq_f rfl rfl (by omega) rfl ?_
      | refine G_geq rfl rfl rfl ?_
      | refine G_sub rfl rfl rfl (by first | exact IntWalk.i64_in _ (by omega) | rfl) ?_
      | refine G_mul rfl rfl rfl (by first | exact IntWalk.i64_in _ (by omega) | rfl) ?_
      | refine G_xor64 rfl rfl rfl ?_
      | refine G_mul64 rfl rfl rfl ?_
      | refine G_or64 rfl rfl rfl ?_
      | refine G_and64 rfl rfl rfl ?_
      | refine G_add64 rfl rfl rfl ?_
      | refine G_sub64 rfl rfl rfl ?_
      | refine G_shr64 rfl rfl rfl rfl ?_
      | refine G_shl64 rfl rfl rfl rfl ?_
      | refine G_eqlB rfl rfl rfl ?_
      | refine G_neqB rfl rfl rfl ?_)
    | (refine Is_load ?_; first
      | refine G_load rfl rfl rfl ?_
      | refine G_load_cell rfl (by first | assumption | (apply_assumption; done) | fail) rfl ?_)
    | (refine Is_store ?_; refine G_store rfl rfl rfl rfl rfl ?_)
    | (refine Is_builtin ?_; first
      | refine G_len rfl rfl ?_)
    | (refine Is_nilCheck ?_; refine G_nilCheck rfl rfl ?_)
    | (refine Is_convert ?_; first
      | refine G_u64_int rfl rfl ?_
      | refine G_to_u64 rfl rfl ?_
      | refine G_conv _ rfl rfl (by first | exact IntWalk.i64_in _ (by omega) | rfl) ?_)
    | (refine Is_fieldAddr ?_; refine G_fieldOff rfl rfl ?_)
    | (refine Is_indexAddr ?_; first
      | refine G_indexA rfl rfl (by first | decide | omega) rfl ?_
      | refine G_indexP rfl rfl (by first | assumption | omega) rfl ?_)
    | (refine Is_un ?_; refine G_not rfl rfl ?_)
    | (refine Is_makeFunc ?_; refine G_makeFunc rfl rfl rfl ?_)
    | (refine Is_extract ?_; refine G_extract rfl rfl rfl ?_)
    | (refine Is_guard ?_; first
      | refine G_guard_yes (by rw [hops.eq]; rfl) rfl (by simp) ?_
      | refine G_guard_no (by rw [hops.eq]; rfl) rfl rfl rfl ?_)
    | (refine Is_pick ?_; first
      | refine G_pick_t rfl rfl rfl ?_
      | refine G_pick_f rfl rfl rfl ?_)
    | refine GC_cond_t rfl ?_
    | refine GC_cond_f rfl ?_
    | refine GC_seq ?_
    | refine GC_region (fun ops hops => ?_)
    | (refine G_nil ?_; try clear hops; try clear ops)
    | refine At_then ?_
    | refine GC_skip ?_
    | refine GC_block ?_
    | refine GC_exit ?_
    | refine GC_ret ?_
    | refine At_then_exit ?_
    | refine At_then_ret ?_
    | refine At_block ?_
    | refine At_block_ret ?_
    | refine At_block_hit ?_
    | refine At_block_miss rfl ?_
    | refine At_round_exit ?_
    | refine At_round_ret ?_))
           exact X_done rfl (List.Sublist.refl _))
      apply DR_x rfl rfl rfl
      · intro mm
        try refine G_guard_yes (by rw [hops.eq]; rfl) rfl (by simp) ?_
        refine G_call rfl (fun w1 hw1 => law_bucket z0 r (by omega) (by omega) w1) rfl ?_
        refine G_nil ?_
        (refine X_done rfl ?_; first | exact List.Sublist.refl _ | exact List.sublist_append_right _ _ | exact List.Sublist.cons _ (List.Sublist.refl _))
      repeat
        apply DR_x rfl rfl rfl
        (· intro mm
           (repeat (first
    | (refine Is_move ?_; refine G_move rfl rfl ?_)
    | (refine Is_assign ?_; refine G_assign rfl rfl ?_)
    | (refine Is_bin ?_; first
      | refine G_lss_t rfl rfl (by omega) rfl ?_
      | refine G_lss_f rfl rfl (by omega) rfl ?_
      | refine G_lss rfl rfl rfl ?_
      | refine G_add rfl rfl rfl (by first | exact IntWalk.i64_in _ (by omega) | rfl) ?_
      | refine G_eql_t rfl rfl (by first | with_reducible rfl | assumption | decide +kernel | omega) rfl ?_
      | refine G_eql_f rfl rfl (by first | decide +kernel | omega | assumption) rfl ?_
      | refine G_eql rfl rfl rfl ?_
      | refine G_neq_f rfl rfl (by first | with_reducible rfl | assumption | decide +kernel | omega) rfl ?_
      | refine G_neq_t rfl rfl (by first | decide +kernel | omega | assumption) rfl ?_
      | refine G_neq rfl rfl rfl ?_
      | refine G_leq_t rfl rfl (by omega) rfl ?_
      | refine G_leq_f rfl rfl (by omega) rfl ?_
      | refine G_leq rfl rfl rfl ?_
      | refine G_gtr_t rfl rfl (by omega) rfl ?_
      | refine G_gtr_f rfl rfl (by omega) rfl ?_
      | refine G_gtr rfl rfl rfl ?_
      | refine G_geq_t rfl rfl (by omega) rfl ?_
      | refine G_geq_f rfl rfl (by omega) rfl ?_
      | refine G_geq rfl rfl rfl ?_
      | refine G_sub rfl rfl rfl (by first | exact IntWalk.i64_in _ (by omega) | rfl) ?_
      | refine G_mul rfl rfl rfl (by first | exact IntWalk.i64_in _ (by omega) | rfl) ?_
      | refine G_xor64 rfl rfl rfl ?_
      | refine G_mul64 rfl rfl rfl ?_
      | refine G_or64 rfl rfl rfl ?_
      | refine G_and64 rfl rfl rfl ?_
      | refine G_add64 rfl rfl rfl ?_
      | refine G_sub64 rfl rfl rfl ?_
      | refine G_shr64 rfl rfl rfl rfl ?_
      | refine G_shl64 rfl rfl rfl rfl ?_
      | refine G_eqlB rfl rfl rfl ?_
      | refine G_neqB rfl rfl rfl ?_)
    | (refine Is_load ?_; first
      | refine G_load rfl rfl rfl ?_
      | refine G_load_cell rfl (by first | assumption | (apply_assumption; done) | fail) rfl ?_)
    | (refine Is_store ?_; refine G_store rfl rfl rfl rfl rfl ?_)
    | (refine Is_builtin ?_; first
      | refine G_len rfl rfl ?_)
    | (refine Is_nilCheck ?_; refine G_nilCheck rfl rfl ?_)
    | (refine Is_convert ?_; first
      | refine G_u64_int rfl rfl ?_
      | refine G_to_u64 rfl rfl ?_
      | refine G_conv _ rfl rfl (by first | exact IntWalk.i64_in _ (by omega) | rfl) ?_)
    | (refine Is_fieldAddr ?_; refine G_fieldOff rfl rfl ?_)
    | (refine Is_indexAddr ?_; first
      | refine G_indexA rfl rfl (by first | decide | omega) rfl ?_
      | refine G_indexP rfl rfl (by first | assumption | omega) rfl ?_)
    | (refine Is_un ?_; refine G_not rfl rfl ?_)
    | (refine Is_makeFunc ?_; refine G_makeFunc rfl rfl rfl ?_)
    | (refine Is_extract ?_; refine G_extract rfl rfl rfl ?_)
    | (refine Is_guard ?_; first
      | refine G_guard_yes (by rw [hops.eq]; rfl) rfl (by simp) ?_
      | refine G_guard_no (by rw [hops.eq]; rfl) rfl rfl rfl ?_)
    | (refine Is_pick ?_; first
      | refine G_pick_t rfl rfl rfl ?_
      | refine G_pick_f rfl rfl rfl ?_)
    | refine GC_cond_t rfl ?_
    | refine GC_cond_f rfl ?_
    | refine GC_seq ?_
    | refine GC_region (fun ops hops => ?_)
    | (refine G_nil ?_; try clear hops; try clear ops)
    | refine At_then ?_
    | refine GC_skip ?_
    | refine GC_block ?_
    | refine GC_exit ?_
    | refine GC_ret ?_
    | refine At_then_exit ?_
    | refine At_then_ret ?_
    | refine At_block ?_
    | refine At_block_ret ?_
    | refine At_block_hit ?_
    | refine At_block_miss rfl ?_
    | refine At_round_exit ?_
    | refine At_round_ret ?_))
           exact X_done rfl (List.Sublist.refl _))
      apply DR_x rfl rfl rfl
      · intro mm
        try refine G_guard_yes (by rw [hops.eq]; rfl) rfl (by simp) ?_
        refine G_rem rfl rfl (by omega) rfl (r := r) hr.symm ?_
        refine G_nil ?_
        (refine X_done rfl ?_; first | exact List.Sublist.refl _ | exact List.sublist_append_right _ _ | exact List.Sublist.cons _ (List.Sublist.refl _))
      repeat
        apply DR_x rfl rfl rfl
        (· intro mm
           (repeat (first
    | (refine Is_move ?_; refine G_move rfl rfl ?_)
    | (refine Is_assign ?_; refine G_assign rfl rfl ?_)
    | (refine Is_bin ?_; first
      | refine G_lss_t rfl rfl (by omega) rfl ?_
      | refine G_lss_f rfl rfl (by omega) rfl ?_
      | refine G_lss rfl rfl rfl ?_
      | refine G_add rfl rfl rfl (by first | exact IntWalk.i64_in _ (by omega) | rfl) ?_
      | refine G_eql_t rfl rfl (by first | with_reducible rfl | assumption | decide +kernel | omega) rfl ?_
      | refine G_eql_f rfl rfl (by first | decide +kernel | omega | assumption) rfl ?_
      | refine G_eql rfl rfl rfl ?_
      | refine G_neq_f rfl rfl (by first | with_reducible rfl | assumption | decide +kernel | omega) rfl ?_
      | refine G_neq_t rfl rfl (by first | decide +kernel | omega | assumption) rfl ?_
      | refine G_neq rfl rfl rfl ?_
      | refine G_leq_t rfl rfl (by omega) rfl ?_
      | refine G_leq_f rfl rfl (by omega) rfl ?_
      | refine G_leq rfl rfl rfl ?_
      | refine G_gtr_t rfl rfl (by omega) rfl ?_
      | refine G_gtr_f rfl rfl (by omega) rfl ?_
      | refine G_gtr rfl rfl rfl ?_
      | refine G_geq_t rfl rfl (by omega) rfl ?_
      | refine G_geq_f rfl rfl (by omega) rfl ?_
      | refine G_geq rfl rfl rfl ?_
      | refine G_sub rfl rfl rfl (by first | exact IntWalk.i64_in _ (by omega) | rfl) ?_
      | refine G_mul rfl rfl rfl (by first | exact IntWalk.i64_in _ (by omega) | rfl) ?_
      | refine G_xor64 rfl rfl rfl ?_
      | refine G_mul64 rfl rfl rfl ?_
      | refine G_or64 rfl rfl rfl ?_
      | refine G_and64 rfl rfl rfl ?_
      | refine G_add64 rfl rfl rfl ?_
      | refine G_sub64 rfl rfl rfl ?_
      | refine G_shr64 rfl rfl rfl rfl ?_
      | refine G_shl64 rfl rfl rfl rfl ?_
      | refine G_eqlB rfl rfl rfl ?_
      | refine G_neqB rfl rfl rfl ?_)
    | (refine Is_load ?_; first
      | refine G_load rfl rfl rfl ?_
      | refine G_load_cell rfl (by first | assumption | (apply_assumption; done) | fail) rfl ?_)
    | (refine Is_store ?_; refine G_store rfl rfl rfl rfl rfl ?_)
    | (refine Is_builtin ?_; first
      | refine G_len rfl rfl ?_)
    | (refine Is_nilCheck ?_; refine G_nilCheck rfl rfl ?_)
    | (refine Is_convert ?_; first
      | refine G_u64_int rfl rfl ?_
      | refine G_to_u64 rfl rfl ?_
      | refine G_conv _ rfl rfl (by first | exact IntWalk.i64_in _ (by omega) | rfl) ?_)
    | (refine Is_fieldAddr ?_; refine G_fieldOff rfl rfl ?_)
    | (refine Is_indexAddr ?_; first
      | refine G_indexA rfl rfl (by first | decide | omega) rfl ?_
      | refine G_indexP rfl rfl (by first | assumption | omega) rfl ?_)
    | (refine Is_un ?_; refine G_not rfl rfl ?_)
    | (refine Is_makeFunc ?_; refine G_makeFunc rfl rfl rfl ?_)
    | (refine Is_extract ?_; refine G_extract rfl rfl rfl ?_)
    | (refine Is_guard ?_; first
      | refine G_guard_yes (by rw [hops.eq]; rfl) rfl (by simp) ?_
      | refine G_guard_no (by rw [hops.eq]; rfl) rfl rfl rfl ?_)
    | (refine Is_pick ?_; first
      | refine G_pick_t rfl rfl rfl ?_
      | refine G_pick_f rfl rfl rfl ?_)
    | refine GC_cond_t rfl ?_
    | refine GC_cond_f rfl ?_
    | refine GC_seq ?_
    | refine GC_region (fun ops hops => ?_)
    | (refine G_nil ?_; try clear hops; try clear ops)
    | refine At_then ?_
    | refine GC_skip ?_
    | refine GC_block ?_
    | refine GC_exit ?_
    | refine GC_ret ?_
    | refine At_then_exit ?_
    | refine At_then_ret ?_
    | refine At_block ?_
    | refine At_block_ret ?_
    | refine At_block_hit ?_
    | refine At_block_miss rfl ?_
    | refine At_round_exit ?_
    | refine At_round_ret ?_))
           exact X_done rfl (List.Sublist.refl _))
      apply DR_x rfl rfl rfl
      · intro mm
        try refine G_guard_yes (by rw [hops.eq]; rfl) rfl (by simp) ?_
        refine G_call rfl (fun w1 hw1 => ref_BucketIn z0 r w1) rfl ?_
        refine G_nil ?_
        (refine X_done rfl ?_; first | exact List.Sublist.refl _ | exact List.sublist_append_right _ _ | exact List.Sublist.cons _ (List.Sublist.refl _))
      repeat
        apply DR_x rfl rfl rfl
        (· intro mm
           (repeat (first
    | (refine Is_move ?_; refine G_move rfl rfl ?_)
    | (refine Is_assign ?_; refine G_assign rfl rfl ?_)
    | (refine Is_bin ?_; first
      | refine G_lss_t rfl rfl (by omega) rfl ?_
      | refine G_lss_f rfl rfl (by omega) rfl ?_
      | refine G_lss rfl rfl rfl ?_
      | refine G_add rfl rfl rfl (by first | exact IntWalk.i64_in _ (by omega) | rfl) ?_
      | refine G_eql_t rfl rfl (by first | with_reducible rfl | assumption | decide +kernel | omega) rfl ?_
      | refine G_eql_f rfl rfl (by first | decide +kernel | omega | assumption) rfl ?_
      | refine G_eql rfl rfl rfl ?_
      | refine G_neq_f rfl rfl (by first | with_reducible rfl | assumption | decide +kernel | omega) rfl ?_
      | refine G_neq_t rfl rfl (by first | decide +kernel | omega | assumption) rfl ?_
      | refine G_neq rfl rfl rfl ?_
      | refine G_leq_t rfl rfl (by omega) rfl ?_
      | refine G_leq_f rfl rfl (by omega) rfl ?_
      | refine G_leq rfl rfl rfl ?_
      | refine G_gtr_t rfl rfl (by omega) rfl ?_
      | refine G_gtr_f rfl rfl (by omega) rfl ?_
      | refine G_gtr rfl rfl rfl ?_
      | refine G_geq_t rfl rfl (by omega) rfl ?_
      | refine G_geq_f rfl rfl (by omega) rfl ?_
      | refine G_geq rfl rfl rfl ?_
      | refine G_sub rfl rfl rfl (by first | exact IntWalk.i64_in _ (by omega) | rfl) ?_
      | refine G_mul rfl rfl rfl (by first | exact IntWalk.i64_in _ (by omega) | rfl) ?_
      | refine G_xor64 rfl rfl rfl ?_
      | refine G_mul64 rfl rfl rfl ?_
      | refine G_or64 rfl rfl rfl ?_
      | refine G_and64 rfl rfl rfl ?_
      | refine G_add64 rfl rfl rfl ?_
      | refine G_sub64 rfl rfl rfl ?_
      | refine G_shr64 rfl rfl rfl rfl ?_
      | refine G_shl64 rfl rfl rfl rfl ?_
      | refine G_eqlB rfl rfl rfl ?_
      | refine G_neqB rfl rfl rfl ?_)
    | (refine Is_load ?_; first
      | refine G_load rfl rfl rfl ?_
      | refine G_load_cell rfl (by first | assumption | (apply_assumption; done) | fail) rfl ?_)
    | (refine Is_store ?_; refine G_store rfl rfl rfl rfl rfl ?_)
    | (refine Is_builtin ?_; first
      | refine G_len rfl rfl ?_)
    | (refine Is_nilCheck ?_; refine G_nilCheck rfl rfl ?_)
    | (refine Is_convert ?_; first
      | refine G_u64_int rfl rfl ?_
      | refine G_to_u64 rfl rfl ?_
      | refine G_conv _ rfl rfl (by first | exact IntWalk.i64_in _ (by omega) | rfl) ?_)
    | (refine Is_fieldAddr ?_; refine G_fieldOff rfl rfl ?_)
    | (refine Is_indexAddr ?_; first
      | refine G_indexA rfl rfl (by first | decide | omega) rfl ?_
      | refine G_indexP rfl rfl (by first | assumption | omega) rfl ?_)
    | (refine Is_un ?_; refine G_not rfl rfl ?_)
    | (refine Is_makeFunc ?_; refine G_makeFunc rfl rfl rfl ?_)
    | (refine Is_extract ?_; refine G_extract rfl rfl rfl ?_)
    | (refine Is_guard ?_; first
      | refine G_guard_yes (by rw [hops.eq]; rfl) rfl (by simp) ?_
      | refine G_guard_no (by rw [hops.eq]; rfl) rfl rfl rfl ?_)
    | (refine Is_pick ?_; first
      | refine G_pick_t rfl rfl rfl ?_
      | refine G_pick_f rfl rfl rfl ?_)
    | refine GC_cond_t rfl ?_
    | refine GC_cond_f rfl ?_
    | refine GC_seq ?_
    | refine GC_region (fun ops hops => ?_)
    | (refine G_nil ?_; try clear hops; try clear ops)
    | refine At_then ?_
    | refine GC_skip ?_
    | refine GC_block ?_
    | refine GC_exit ?_
    | refine GC_ret ?_
    | refine At_then_exit ?_
    | refine At_then_ret ?_
    | refine At_block ?_
    | refine At_block_ret ?_
    | refine At_block_hit ?_
    | refine At_block_miss rfl ?_
    | refine At_round_exit ?_
    | refine At_round_ret ?_))
           exact X_done rfl (List.Sublist.refl _))
      apply DR_x rfl rfl rfl
      · intro mm
        try refine G_guard_yes (by rw [hops.eq]; rfl) rfl (by simp) ?_
        refine G_eqlS (b := true) rfl rfl rfl rfl (sames_self _ [.int .i64, .int .i64] rfl) rfl ?_
        refine G_nil ?_
        (refine X_done rfl ?_; first | exact List.Sublist.refl _ | exact List.sublist_append_right _ _ | exact List.Sublist.cons _ (List.Sublist.refl _))
      repeat
        apply DR_x rfl rfl rfl
        (· intro mm
           (repeat (first
    | (refine Is_move ?_; refine G_move rfl rfl ?_)
    | (refine Is_assign ?_; refine G_assign rfl rfl ?_)
    | (refine Is_bin ?_; first
      | refine G_lss_t rfl rfl (by omega) rfl ?_
      | refine G_lss_f rfl rfl (by omega) rfl ?_
      | refine G_lss rfl rfl rfl ?_
      | refine G_add rfl rfl rfl (by first | exact IntWalk.i64_in _ (by omega) | rfl) ?_
      | refine G_eql_t rfl rfl (by first | with_reducible rfl | assumption | decide +kernel | omega) rfl ?_
      | refine G_eql_f rfl rfl (by first | decide +kernel | omega | assumption) rfl ?_
      | refine G_eql rfl rfl rfl ?_
      | refine G_neq_f rfl rfl (by first | with_reducible rfl | assumption | decide +kernel | omega) rfl ?_
      | refine G_neq_t rfl rfl (by first | decide +kernel | omega | assumption) rfl ?_
      | refine G_neq rfl rfl rfl ?_
      | refine G_leq_t rfl rfl (by omega) rfl ?_
      | refine G_leq_f rfl rfl (by omega) rfl ?_
      | refine G_leq rfl rfl rfl ?_
      | refine G_gtr_t rfl rfl (by omega) rfl ?_
      | refine G_gtr_f rfl rfl (by omega) rfl ?_
      | refine G_gtr rfl rfl rfl ?_
      | refine G_geq_t rfl rfl (by omega) rfl ?_
      | refine G_geq_f rfl rfl (by omega) rfl ?_
      | refine G_geq rfl rfl rfl ?_
      | refine G_sub rfl rfl rfl (by first | exact IntWalk.i64_in _ (by omega) | rfl) ?_
      | refine G_mul rfl rfl rfl (by first | exact IntWalk.i64_in _ (by omega) | rfl) ?_
      | refine G_xor64 rfl rfl rfl ?_
      | refine G_mul64 rfl rfl rfl ?_
      | refine G_or64 rfl rfl rfl ?_
      | refine G_and64 rfl rfl rfl ?_
      | refine G_add64 rfl rfl rfl ?_
      | refine G_sub64 rfl rfl rfl ?_
      | refine G_shr64 rfl rfl rfl rfl ?_
      | refine G_shl64 rfl rfl rfl rfl ?_
      | refine G_eqlB rfl rfl rfl ?_
      | refine G_neqB rfl rfl rfl ?_)
    | (refine Is_load ?_; first
      | refine G_load rfl rfl rfl ?_
      | refine G_load_cell rfl (by first | assumption | (apply_assumption; done) | fail) rfl ?_)
    | (refine Is_store ?_; refine G_store rfl rfl rfl rfl rfl ?_)
    | (refine Is_builtin ?_; first
      | refine G_len rfl rfl ?_)
    | (refine Is_nilCheck ?_; refine G_nilCheck rfl rfl ?_)
    | (refine Is_convert ?_; first
      | refine G_u64_int rfl rfl ?_
      | refine G_to_u64 rfl rfl ?_
      | refine G_conv _ rfl rfl (by first | exact IntWalk.i64_in _ (by omega) | rfl) ?_)
    | (refine Is_fieldAddr ?_; refine G_fieldOff rfl rfl ?_)
    | (refine Is_indexAddr ?_; first
      | refine G_indexA rfl rfl (by first | decide | omega) rfl ?_
      | refine G_indexP rfl rfl (by first | assumption | omega) rfl ?_)
    | (refine Is_un ?_; refine G_not rfl rfl ?_)
    | (refine Is_makeFunc ?_; refine G_makeFunc rfl rfl rfl ?_)
    | (refine Is_extract ?_; refine G_extract rfl rfl rfl ?_)
    | (refine Is_guard ?_; first
      | refine G_guard_yes (by rw [hops.eq]; rfl) rfl (by simp) ?_
      | refine G_guard_no (by rw [hops.eq]; rfl) rfl rfl rfl ?_)
    | (refine Is_pick ?_; first
      | refine G_pick_t rfl rfl rfl ?_
      | refine G_pick_f rfl rfl rfl ?_)
    | refine GC_cond_t rfl ?_
    | refine GC_cond_f rfl ?_
    | refine GC_seq ?_
    | refine GC_region (fun ops hops => ?_)
    | (refine G_nil ?_; try clear hops; try clear ops)
    | refine At_then ?_
    | refine GC_skip ?_
    | refine GC_block ?_
    | refine GC_exit ?_
    | refine GC_ret ?_
    | refine At_then_exit ?_
    | refine At_then_ret ?_
    | refine At_block ?_
    | refine At_block_ret ?_
    | refine At_block_hit ?_
    | refine At_block_miss rfl ?_
    | refine At_round_exit ?_
    | refine At_round_ret ?_))
           exact X_done rfl (List.Sublist.refl _))
      refine DR_nil rfl ?_
      repeat (first
    | (refine Is_move ?_; refine G_move rfl rfl ?_)
    | (refine Is_assign ?_; refine G_assign rfl rfl ?_)
    | (refine Is_bin ?_; first
      | refine G_lss_t rfl rfl (by omega) rfl ?_
      | refine G_lss_f rfl rfl (by omega) rfl ?_
      | refine G_lss rfl rfl rfl ?_
      | refine G_add rfl rfl rfl (by first | exact IntWalk.i64_in _ (by omega) | rfl) ?_
      | refine G_eql_t rfl rfl (by first | with_reducible rfl | assumption | decide +kernel | omega) rfl ?_
      | refine G_eql_f rfl rfl (by first | decide +kernel | omega | assumption) rfl ?_
      | refine G_eql rfl rfl rfl ?_
      | refine G_neq_f rfl rfl (by first | with_reducible rfl | assumption | decide +kernel | omega) rfl ?_
      | refine G_neq_t rfl rfl (by first | decide +kernel | omega | assumption) rfl ?_
      | refine G_neq rfl rfl rfl ?_
      | refine G_leq_t rfl rfl (by omega) rfl ?_
      | refine G_leq_f rfl rfl (by omega) rfl ?_
      | refine G_leq rfl rfl rfl ?_
      | refine G_gtr_t rfl rfl (by omega) rfl ?_
      | refine G_gtr_f rfl rfl (by omega) rfl ?_
      | refine G_gtr rfl rfl rfl ?_
      | refine G_geq_t rfl rfl (by omega) rfl ?_
      | refine G_geq_f rfl rfl (by omega) rfl ?_
      | refine G_geq rfl rfl rfl ?_
      | refine G_sub rfl rfl rfl (by first | exact IntWalk.i64_in _ (by omega) | rfl) ?_
      | refine G_mul rfl rfl rfl (by first | exact IntWalk.i64_in _ (by omega) | rfl) ?_
      | refine G_xor64 rfl rfl rfl ?_
      | refine G_mul64 rfl rfl rfl ?_
      | refine G_or64 rfl rfl rfl ?_
      | refine G_and64 rfl rfl rfl ?_
      | refine G_add64 rfl rfl rfl ?_
      | refine G_sub64 rfl rfl rfl ?_
      | refine G_shr64 rfl rfl rfl rfl ?_
      | refine G_shl64 rfl rfl rfl rfl ?_
      | refine G_eqlB rfl rfl rfl ?_
      | refine G_neqB rfl rfl rfl ?_)
    | (refine Is_load ?_; first
      | refine G_load rfl rfl rfl ?_
      | refine G_load_cell rfl (by first | assumption | (apply_assumption; done) | fail) rfl ?_)
    | (refine Is_store ?_; refine G_store rfl rfl rfl rfl rfl ?_)
    | (refine Is_builtin ?_; first
      | refine G_len rfl rfl ?_)
    | (refine Is_nilCheck ?_; refine G_nilCheck rfl rfl ?_)
    | (refine Is_convert ?_; first
      | refine G_u64_int rfl rfl ?_
      | refine G_to_u64 rfl rfl ?_
      | refine G_conv _ rfl rfl (by first | exact IntWalk.i64_in _ (by omega) | rfl) ?_)
    | (refine Is_fieldAddr ?_; refine G_fieldOff rfl rfl ?_)
    | (refine Is_indexAddr ?_; first
      | refine G_indexA rfl rfl (by first | decide | omega) rfl ?_
      | refine G_indexP rfl rfl (by first | assumption | omega) rfl ?_)
    | (refine Is_un ?_; refine G_not rfl rfl ?_)
    | (refine Is_makeFunc ?_; refine G_makeFunc rfl rfl rfl ?_)
    | (refine Is_extract ?_; refine G_extract rfl rfl rfl ?_)
    | (refine Is_guard ?_; first
      | refine G_guard_yes (by rw [hops.eq]; rfl) rfl (by simp) ?_
      | refine G_guard_no (by rw [hops.eq]; rfl) rfl rfl rfl ?_)
    | (refine Is_pick ?_; first
      | refine G_pick_t rfl rfl rfl ?_
      | refine G_pick_f rfl rfl rfl ?_)
    | refine GC_cond_t rfl ?_
    | refine GC_cond_f rfl ?_
    | refine GC_seq ?_
    | refine GC_region (fun ops hops => ?_)
    | (refine G_nil ?_; try clear hops; try clear ops)
    | refine At_then ?_
    | refine GC_skip ?_
    | refine GC_block ?_
    | refine GC_exit ?_
    | refine GC_ret ?_
    | refine At_then_exit ?_
    | refine At_then_ret ?_
    | refine At_block ?_
    | refine At_block_ret ?_
    | refine At_block_hit ?_
    | refine At_block_miss rfl ?_
    | refine At_round_exit ?_
    | refine At_round_ret ?_)
      exact ret_one rfl rfl fun w' h' => ⟨rfl, h'.drop (by simp)⟩
end Go.Proofs.Ytcmjfmofaligfaa
