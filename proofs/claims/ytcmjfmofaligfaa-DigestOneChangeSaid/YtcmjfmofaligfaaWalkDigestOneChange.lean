/- The walk of DigestOneChange. -/
import Derived.Test.YtcmjfmofaligfaaDigG
import Derived.Test.YtcmjfmofaligfaaPureOne
import Derived.Test.YtcmjfmofaligfaaOwn
set_option linter.unusedVariables false
set_option linter.unusedSimpArgs false
set_option maxRecDepth 100000
namespace Go.Proofs.Ytcmjfmofaligfaa
open Go.RowKit
attribute [local irreducible] G GC At wpL DR XPost CPost Cut

theorem nat_eqq {p q : BitVec 64} : ((p.toNat : Int) = q.toNat) ↔ p = q := ⟨fun h => BitVec.eq_of_toNat_eq (by omega), fun h => by rw [h]⟩
theorem decs {p q : Prop} [Decidable p] [Decidable q] (h : p ↔ q) : (!(decide p == decide q)) = false := by simp [h]
theorem joins_l {h a b c : BitVec 64} : (((foldB h [a, b]).toNat : Int) = (foldB h [c, b]).toNat) ↔ ((a.toNat : Int) = c.toNat) := by
  rw [nat_eqq, nat_eqq]
  have : ∀ x : BitVec 64, foldB h [x, b] = stepB (stepB h x) b := fun _ => rfl
  rw [this, this, step_inj_l, step_inj_r]
theorem joins_r {h a b c : BitVec 64} : (((foldB h [a, b]).toNat : Int) = (foldB h [a, c]).toNat) ↔ ((b.toNat : Int) = c.toNat) := by
  rw [nat_eqq, nat_eqq]
  have : ∀ x : BitVec 64, foldB h [a, x] = stepB (stepB h a) x := fun _ => rfl
  rw [this, this, step_inj_r]

abbrev bw (l : List Int) : List (BitVec 64) := l.map (BitVec.ofInt 64)
theorem bw_snoc (l : List Int) (k : Nat) (h : k < l.length) : (bw (l.take k)).map U ++ [U (BitVec.ofInt 64 l[k])] = (bw (l.take (k + 1))).map U := by
  rw [List.take_succ_eq_append_getElem h, bw, bw, List.map_append, List.map_append]; rfl

set_option maxHeartbeats 2000000 in
theorem walk_DigestOneChange (w : World) (v0 : Value) (l : List Int) (hl : Rd w v0 1 (l.map I)) (bl : ∀ z ∈ l, -9223372036854775808 ≤ z ∧ z ≤ 9223372036854775807) (v1 : Value) (bs : List (BitVec 8)) (hb : Rd w v1 1 (bs.map B8)) (z0 z1 z2 z3 : BitVec 64) :
    Calls Try.prog 4 #[v0, v1, .agg #[U z0, U z1, U z2, U z3]] w (Is w (.bool true)) := by
  have hL := RdO.old hl
  have hB := RdO.old hb
  obtain ⟨A, q, c, rfl, q1, q2, q3, q4⟩ := hl
  obtain rfl : l.length = q := by simpa using q1
  obtain ⟨A', q', c', rfl, q1', q2', q3', q4'⟩ := hb
  obtain rfl : bs.length = q' := by simpa using q1'
  unfold maxLen at q3 q3'
  refine enter (N := 173) (args := [.slice A l.length c, .slice A' bs.length c', .agg #[U z0, U z1, U z2, U z3]]) Try.func4 rfl rfl rfl (St.refl w) ?_
  clear q1 q4 q1' q4'
  repeat (first
    | (refine Is_move ?_; refine G_move rfl rfl ?_)
    | (refine Is_assign ?_; refine G_assign rfl rfl ?_)
    | (refine Is_bin ?_; first
      | refine G_lss_t rfl rfl (by omega) rfl ?_
      | refine G_lss_f rfl rfl (by omega) rfl ?_
      | refine G_lss rfl rfl rfl ?_
      | refine G_add rfl rfl rfl (by first | exact IntWalk.i64_in _ (by omega) | rfl) ?_
      | refine G_eql_t rfl rfl (by first | with_reducible rfl | assumption | decide +kernel | omega) rfl ?_
      | refine G_eql_f rfl rfl (by first | decide +kernel | omega | assumption) rfl ?_
      | refine G_eql rfl rfl rfl ?_
      | refine G_neq_f rfl rfl (by first | with_reducible rfl | assumption | decide +kernel | omega) rfl ?_
      | refine G_neq_t rfl rfl (by first | decide +kernel | omega | assumption) rfl ?_
      | refine G_neq rfl rfl rfl ?_
      | refine G_leq_t rfl rfl (by omega) rfl ?_
      | refine G_leq_f rfl rfl (by omega) rfl ?_
      | refine G_leq rfl rfl rfl ?_
      | refine G_gtr_t rfl rfl (by omega) rfl ?_
      | refine G_gtr_f rfl rfl (by omega) rfl ?_
      | refine G_gtr rfl rfl rfl ?_
      | refine G_geq_t rfl rfl (by omega) rfl ?_
      | refine G_geq_f rfl rfl (by omega) rfl ?_
      | refine G_geq rfl rfl rfl ?_
      | refine G_sub rfl rfl rfl (by first | exact IntWalk.i64_in _ (by omega) | rfl) ?_
      | refine G_mul rfl rfl rfl (by first | exact IntWalk.i64_in _ (by omega) | rfl) ?_
      | refine G_xor64 rfl rfl rfl ?_
      | refine G_mul64 rfl rfl rfl ?_
      | refine G_or64 rfl rfl rfl ?_
      | refine G_and64 rfl rfl rfl ?_
      | refine G_add64 rfl rfl rfl ?_
      | refine G_sub64 rfl rfl rfl ?_
      | refine G_shr64 rfl rfl rfl rfl ?_
      | refine G_shl64 rfl rfl rfl rfl ?_
      | refine G_eqlB rfl rfl rfl ?_
      | refine G_neqB rfl rfl rfl ?_)
    | (refine Is_load ?_; first
      | refine G_load rfl rfl rfl ?_
      | refine G_load_cell rfl (by first | assumption | (apply_assumption; done) | fail) rfl ?_)
    | (refine Is_store ?_; refine G_store rfl rfl rfl rfl rfl ?_)
    | (refine Is_builtin ?_; first
      | refine G_len rfl rfl ?_)
    | (refine Is_nilCheck ?_; refine G_nilCheck rfl rfl ?_)
    | (refine Is_convert ?_; first
      | refine G_u64_int rfl rfl ?_
      | refine G_to_u64 rfl rfl ?_
      | refine G_conv _ rfl rfl (by first | exact IntWalk.i64_in _ (by omega) | rfl) ?_)
    | (refine Is_fieldAddr ?_; refine G_fieldOff rfl rfl ?_)
    | (refine Is_indexAddr ?_; first
      | refine G_indexA rfl rfl (by first | decide | omega) rfl ?_
      | refine G_indexP rfl rfl (by first | assumption | omega) rfl ?_)
    | (refine Is_un ?_; refine G_not rfl rfl ?_)
    | (refine Is_makeFunc ?_; refine G_makeFunc rfl rfl rfl ?_)
    | (refine Is_extract ?_; refine G_extract rfl rfl rfl ?_)
    | (refine Is_guard ?_; first
      | refine G_guard_yes (by rw [hops.eq]; rfl) rfl (by simp) ?_
      | refine G_guard_no (by rw [hops.eq]; rfl) rfl rfl rfl ?_)
    | (refine Is_pick ?_; first
      | refine G_pick_t rfl rfl rfl ?_
      | refine G_pick_f rfl rfl rfl ?_)
    | refine GC_cond_t rfl ?_
    | refine GC_cond_f rfl ?_
    | refine GC_seq ?_
    | refine GC_region (fun ops hops => ?_)
    | (refine G_nil ?_; try clear hops; try clear ops)
    | refine At_then ?_
    | refine GC_skip ?_
    | refine GC_block ?_
    | refine GC_exit ?_
    | refine GC_ret ?_
    | refine At_then_exit ?_
    | refine At_then_ret ?_
    | refine At_block ?_
    | refine At_block_ret ?_
    | refine At_block_hit ?_
    | refine At_block_miss rfl ?_
    | refine At_round_exit ?_
    | refine At_round_ret ?_)
  (refine G_box rfl rfl ?_; intro b)
  rw [show Value.cells (.agg #[U z0, U z1, U z2, U z3]) = #[U z0, U z1, U z2, U z3] from rfl]
  repeat (first
    | (refine Is_move ?_; refine G_move rfl rfl ?_)
    | (refine Is_assign ?_; refine G_assign rfl rfl ?_)
    | (refine Is_bin ?_; first
      | refine G_lss_t rfl rfl (by omega) rfl ?_
      | refine G_lss_f rfl rfl (by omega) rfl ?_
      | refine G_lss rfl rfl rfl ?_
      | refine G_add rfl rfl rfl (by first | exact IntWalk.i64_in _ (by omega) | rfl) ?_
      | refine G_eql_t rfl rfl (by first | with_reducible rfl | assumption | decide +kernel | omega) rfl ?_
      | refine G_eql_f rfl rfl (by first | decide +kernel | omega | assumption) rfl ?_
      | refine G_eql rfl rfl rfl ?_
      | refine G_neq_f rfl rfl (by first | with_reducible rfl | assumption | decide +kernel | omega) rfl ?_
      | refine G_neq_t rfl rfl (by first | decide +kernel | omega | assumption) rfl ?_
      | refine G_neq rfl rfl rfl ?_
      | refine G_leq_t rfl rfl (by omega) rfl ?_
      | refine G_leq_f rfl rfl (by omega) rfl ?_
      | refine G_leq rfl rfl rfl ?_
      | refine G_gtr_t rfl rfl (by omega) rfl ?_
      | refine G_gtr_f rfl rfl (by omega) rfl ?_
      | refine G_gtr rfl rfl rfl ?_
      | refine G_geq_t rfl rfl (by omega) rfl ?_
      | refine G_geq_f rfl rfl (by omega) rfl ?_
      | refine G_geq rfl rfl rfl ?_
      | refine G_sub rfl rfl rfl (by first | exact IntWalk.i64_in _ (by omega) | rfl) ?_
      | refine G_mul rfl rfl rfl (by first | exact IntWalk.i64_in _ (by omega) | rfl) ?_
      | refine G_xor64 rfl rfl rfl ?_
      | refine G_mul64 rfl rfl rfl ?_
      | refine G_or64 rfl rfl rfl ?_
      | refine G_and64 rfl rfl rfl ?_
      | refine G_add64 rfl rfl rfl ?_
      | refine G_sub64 rfl rfl rfl ?_
      | refine G_shr64 rfl rfl rfl rfl ?_
      | refine G_shl64 rfl rfl rfl rfl ?_
      | refine G_eqlB rfl rfl rfl ?_
      | refine G_neqB rfl rfl rfl ?_)
    | (refine Is_load ?_; first
      | refine G_load rfl rfl rfl ?_
      | refine G_load_cell rfl (by first | assumption | (apply_assumption; done) | fail) rfl ?_)
    | (refine Is_store ?_; refine G_store rfl rfl rfl rfl rfl ?_)
    | (refine Is_builtin ?_; first
      | refine G_len rfl rfl ?_)
    | (refine Is_nilCheck ?_; refine G_nilCheck rfl rfl ?_)
    | (refine Is_convert ?_; first
      | refine G_u64_int rfl rfl ?_
      | refine G_to_u64 rfl rfl ?_
      | refine G_conv _ rfl rfl (by first | exact IntWalk.i64_in _ (by omega) | rfl) ?_)
    | (refine Is_fieldAddr ?_; refine G_fieldOff rfl rfl ?_)
    | (refine Is_indexAddr ?_; first
      | refine G_indexA rfl rfl (by first | decide | omega) rfl ?_
      | refine G_indexP rfl rfl (by first | assumption | omega) rfl ?_)
    | (refine Is_un ?_; refine G_not rfl rfl ?_)
    | (refine Is_makeFunc ?_; refine G_makeFunc rfl rfl rfl ?_)
    | (refine Is_extract ?_; refine G_extract rfl rfl rfl ?_)
    | (refine Is_guard ?_; first
      | refine G_guard_yes (by rw [hops.eq]; rfl) rfl (by simp) ?_
      | refine G_guard_no (by rw [hops.eq]; rfl) rfl rfl rfl ?_)
    | (refine Is_pick ?_; first
      | refine G_pick_t rfl rfl rfl ?_
      | refine G_pick_f rfl rfl rfl ?_)
    | refine GC_cond_t rfl ?_
    | refine GC_cond_f rfl ?_
    | refine GC_seq ?_
    | refine GC_region (fun ops hops => ?_)
    | (refine G_nil ?_; try clear hops; try clear ops)
    | refine At_then ?_
    | refine GC_skip ?_
    | refine GC_block ?_
    | refine GC_exit ?_
    | refine GC_ret ?_
    | refine At_then_exit ?_
    | refine At_then_ret ?_
    | refine At_block ?_
    | refine At_block_ret ?_
    | refine At_block_hit ?_
    | refine At_block_miss rfl ?_
    | refine At_round_exit ?_
    | refine At_round_ret ?_)
  refine G_call rfl (fun w1 _ => law_examples w1) rfl ?_
  by_cases h1 : 200 < l.length
  · repeat (first
    | (refine Is_move ?_; refine G_move rfl rfl ?_)
    | (refine Is_assign ?_; refine G_assign rfl rfl ?_)
    | (refine Is_bin ?_; first
      | refine G_lss_t rfl rfl (by omega) rfl ?_
      | refine G_lss_f rfl rfl (by omega) rfl ?_
      | refine G_lss rfl rfl rfl ?_
      | refine G_add rfl rfl rfl (by first | exact IntWalk.i64_in _ (by omega) | rfl) ?_
      | refine G_eql_t rfl rfl (by first | with_reducible rfl | assumption | decide +kernel | omega) rfl ?_
      | refine G_eql_f rfl rfl (by first | decide +kernel | omega | assumption) rfl ?_
      | refine G_eql rfl rfl rfl ?_
      | refine G_neq_f rfl rfl (by first | with_reducible rfl | assumption | decide +kernel | omega) rfl ?_
      | refine G_neq_t rfl rfl (by first | decide +kernel | omega | assumption) rfl ?_
      | refine G_neq rfl rfl rfl ?_
      | refine G_leq_t rfl rfl (by omega) rfl ?_
      | refine G_leq_f rfl rfl (by omega) rfl ?_
      | refine G_leq rfl rfl rfl ?_
      | refine G_gtr_t rfl rfl (by omega) rfl ?_
      | refine G_gtr_f rfl rfl (by omega) rfl ?_
      | refine G_gtr rfl rfl rfl ?_
      | refine G_geq_t rfl rfl (by omega) rfl ?_
      | refine G_geq_f rfl rfl (by omega) rfl ?_
      | refine G_geq rfl rfl rfl ?_
      | refine G_sub rfl rfl rfl (by first | exact IntWalk.i64_in _ (by omega) | rfl) ?_
      | refine G_mul rfl rfl rfl (by first | exact IntWalk.i64_in _ (by omega) | rfl) ?_
      | refine G_xor64 rfl rfl rfl ?_
      | refine G_mul64 rfl rfl rfl ?_
      | refine G_or64 rfl rfl rfl ?_
      | refine G_and64 rfl rfl rfl ?_
      | refine G_add64 rfl rfl rfl ?_
      | refine G_sub64 rfl rfl rfl ?_
      | refine G_shr64 rfl rfl rfl rfl ?_
      | refine G_shl64 rfl rfl rfl rfl ?_
      | refine G_eqlB rfl rfl rfl ?_
      | refine G_neqB rfl rfl rfl ?_)
    | (refine Is_load ?_; first
      | refine G_load rfl rfl rfl ?_
      | refine G_load_cell rfl (by first | assumption | (apply_assumption; done) | fail) rfl ?_)
    | (refine Is_store ?_; refine G_store rfl rfl rfl rfl rfl ?_)
    | (refine Is_builtin ?_; first
      | refine G_len rfl rfl ?_)
    | (refine Is_nilCheck ?_; refine G_nilCheck rfl rfl ?_)
    | (refine Is_convert ?_; first
      | refine G_u64_int rfl rfl ?_
      | refine G_to_u64 rfl rfl ?_
      | refine G_conv _ rfl rfl (by first | exact IntWalk.i64_in _ (by omega) | rfl) ?_)
    | (refine Is_fieldAddr ?_; refine G_fieldOff rfl rfl ?_)
    | (refine Is_indexAddr ?_; first
      | refine G_indexA rfl rfl (by first | decide | omega) rfl ?_
      | refine G_indexP rfl rfl (by first | assumption | omega) rfl ?_)
    | (refine Is_un ?_; refine G_not rfl rfl ?_)
    | (refine Is_makeFunc ?_; refine G_makeFunc rfl rfl rfl ?_)
    | (refine Is_extract ?_; refine G_extract rfl rfl rfl ?_)
    | (refine Is_guard ?_; first
      | refine G_guard_yes (by rw [hops.eq]; rfl) rfl (by simp) ?_
      | refine G_guard_no (by rw [hops.eq]; rfl) rfl rfl rfl ?_)
    | (refine Is_pick ?_; first
      | refine G_pick_t rfl rfl rfl ?_
      | refine G_pick_f rfl rfl rfl ?_)
    | refine GC_cond_t rfl ?_
    | refine GC_cond_f rfl ?_
    | refine GC_seq ?_
    | refine GC_region (fun ops hops => ?_)
    | (refine G_nil ?_; try clear hops; try clear ops)
    | refine At_then ?_
    | refine GC_skip ?_
    | refine GC_block ?_
    | refine GC_exit ?_
    | refine GC_ret ?_
    | refine At_then_exit ?_
    | refine At_then_ret ?_
    | refine At_block ?_
    | refine At_block_ret ?_
    | refine At_block_hit ?_
    | refine At_block_miss rfl ?_
    | refine At_round_exit ?_
    | refine At_round_ret ?_)
    exact ret_one rfl rfl fun w' h' => ⟨rfl, h'.drop (by simp)⟩
  by_cases h2 : 200 < bs.length
  · repeat (first
    | (refine Is_move ?_; refine G_move rfl rfl ?_)
    | (refine Is_assign ?_; refine G_assign rfl rfl ?_)
    | (refine Is_bin ?_; first
      | refine G_lss_t rfl rfl (by omega) rfl ?_
      | refine G_lss_f rfl rfl (by omega) rfl ?_
      | refine G_lss rfl rfl rfl ?_
      | refine G_add rfl rfl rfl (by first | exact IntWalk.i64_in _ (by omega) | rfl) ?_
      | refine G_eql_t rfl rfl (by first | with_reducible rfl | assumption | decide +kernel | omega) rfl ?_
      | refine G_eql_f rfl rfl (by first | decide +kernel | omega | assumption) rfl ?_
      | refine G_eql rfl rfl rfl ?_
      | refine G_neq_f rfl rfl (by first | with_reducible rfl | assumption | decide +kernel | omega) rfl ?_
      | refine G_neq_t rfl rfl (by first | decide +kernel | omega | assumption) rfl ?_
      | refine G_neq rfl rfl rfl ?_
      | refine G_leq_t rfl rfl (by omega) rfl ?_
      | refine G_leq_f rfl rfl (by omega) rfl ?_
      | refine G_leq rfl rfl rfl ?_
      | refine G_gtr_t rfl rfl (by omega) rfl ?_
      | refine G_gtr_f rfl rfl (by omega) rfl ?_
      | refine G_gtr rfl rfl rfl ?_
      | refine G_geq_t rfl rfl (by omega) rfl ?_
      | refine G_geq_f rfl rfl (by omega) rfl ?_
      | refine G_geq rfl rfl rfl ?_
      | refine G_sub rfl rfl rfl (by first | exact IntWalk.i64_in _ (by omega) | rfl) ?_
      | refine G_mul rfl rfl rfl (by first | exact IntWalk.i64_in _ (by omega) | rfl) ?_
      | refine G_xor64 rfl rfl rfl ?_
      | refine G_mul64 rfl rfl rfl ?_
      | refine G_or64 rfl rfl rfl ?_
      | refine G_and64 rfl rfl rfl ?_
      | refine G_add64 rfl rfl rfl ?_
      | refine G_sub64 rfl rfl rfl ?_
      | refine G_shr64 rfl rfl rfl rfl ?_
      | refine G_shl64 rfl rfl rfl rfl ?_
      | refine G_eqlB rfl rfl rfl ?_
      | refine G_neqB rfl rfl rfl ?_)
    | (refine Is_load ?_; first
      | refine G_load rfl rfl rfl ?_
      | refine G_load_cell rfl (by first | assumption | (apply_assumption; done) | fail) rfl ?_)
    | (refine Is_store ?_; refine G_store rfl rfl rfl rfl rfl ?_)
    | (refine Is_builtin ?_; first
      | refine G_len rfl rfl ?_)
    | (refine Is_nilCheck ?_; refine G_nilCheck rfl rfl ?_)
    | (refine Is_convert ?_; first
      | refine G_u64_int rfl rfl ?_
      | refine G_to_u64 rfl rfl ?_
      | refine G_conv _ rfl rfl (by first | exact IntWalk.i64_in _ (by omega) | rfl) ?_)
    | (refine Is_fieldAddr ?_; refine G_fieldOff rfl rfl ?_)
    | (refine Is_indexAddr ?_; first
      | refine G_indexA rfl rfl (by first | decide | omega) rfl ?_
      | refine G_indexP rfl rfl (by first | assumption | omega) rfl ?_)
    | (refine Is_un ?_; refine G_not rfl rfl ?_)
    | (refine Is_makeFunc ?_; refine G_makeFunc rfl rfl rfl ?_)
    | (refine Is_extract ?_; refine G_extract rfl rfl rfl ?_)
    | (refine Is_guard ?_; first
      | refine G_guard_yes (by rw [hops.eq]; rfl) rfl (by simp) ?_
      | refine G_guard_no (by rw [hops.eq]; rfl) rfl rfl rfl ?_)
    | (refine Is_pick ?_; first
      | refine G_pick_t rfl rfl rfl ?_
      | refine G_pick_f rfl rfl rfl ?_)
    | refine GC_cond_t rfl ?_
    | refine GC_cond_f rfl ?_
    | refine GC_seq ?_
    | refine GC_region (fun ops hops => ?_)
    | (refine G_nil ?_; try clear hops; try clear ops)
    | refine At_then ?_
    | refine GC_skip ?_
    | refine GC_block ?_
    | refine GC_exit ?_
    | refine GC_ret ?_
    | refine At_then_exit ?_
    | refine At_then_ret ?_
    | refine At_block ?_
    | refine At_block_ret ?_
    | refine At_block_hit ?_
    | refine At_block_miss rfl ?_
    | refine At_round_exit ?_
    | refine At_round_ret ?_)
    exact ret_one rfl rfl fun w' h' => ⟨rfl, h'.drop (by simp)⟩
  repeat (first
    | (refine Is_move ?_; refine G_move rfl rfl ?_)
    | (refine Is_assign ?_; refine G_assign rfl rfl ?_)
    | (refine Is_bin ?_; first
      | refine G_lss_t rfl rfl (by omega) rfl ?_
      | refine G_lss_f rfl rfl (by omega) rfl ?_
      | refine G_lss rfl rfl rfl ?_
      | refine G_add rfl rfl rfl (by first | exact IntWalk.i64_in _ (by omega) | rfl) ?_
      | refine G_eql_t rfl rfl (by first | with_reducible rfl | assumption | decide +kernel | omega) rfl ?_
      | refine G_eql_f rfl rfl (by first | decide +kernel | omega | assumption) rfl ?_
      | refine G_eql rfl rfl rfl ?_
      | refine G_neq_f rfl rfl (by first | with_reducible rfl | assumption | decide +kernel | omega) rfl ?_
      | refine G_neq_t rfl rfl (by first | decide +kernel | omega | assumption) rfl ?_
      | refine G_neq rfl rfl rfl ?_
      | refine G_leq_t rfl rfl (by omega) rfl ?_
      | refine G_leq_f rfl rfl (by omega) rfl ?_
      | refine G_leq rfl rfl rfl ?_
      | refine G_gtr_t rfl rfl (by omega) rfl ?_
      | refine G_gtr_f rfl rfl (by omega) rfl ?_
      | refine G_gtr rfl rfl rfl ?_
      | refine G_geq_t rfl rfl (by omega) rfl ?_
      | refine G_geq_f rfl rfl (by omega) rfl ?_
      | refine G_geq rfl rfl rfl ?_
      | refine G_sub rfl rfl rfl (by first | exact IntWalk.i64_in _ (by omega) | rfl) ?_
      | refine G_mul rfl rfl rfl (by first | exact IntWalk.i64_in _ (by omega) | rfl) ?_
      | refine G_xor64 rfl rfl rfl ?_
      | refine G_mul64 rfl rfl rfl ?_
      | refine G_or64 rfl rfl rfl ?_
      | refine G_and64 rfl rfl rfl ?_
      | refine G_add64 rfl rfl rfl ?_
      | refine G_sub64 rfl rfl rfl ?_
      | refine G_shr64 rfl rfl rfl rfl ?_
      | refine G_shl64 rfl rfl rfl rfl ?_
      | refine G_eqlB rfl rfl rfl ?_
      | refine G_neqB rfl rfl rfl ?_)
    | (refine Is_load ?_; first
      | refine G_load rfl rfl rfl ?_
      | refine G_load_cell rfl (by first | assumption | (apply_assumption; done) | fail) rfl ?_)
    | (refine Is_store ?_; refine G_store rfl rfl rfl rfl rfl ?_)
    | (refine Is_builtin ?_; first
      | refine G_len rfl rfl ?_)
    | (refine Is_nilCheck ?_; refine G_nilCheck rfl rfl ?_)
    | (refine Is_convert ?_; first
      | refine G_u64_int rfl rfl ?_
      | refine G_to_u64 rfl rfl ?_
      | refine G_conv _ rfl rfl (by first | exact IntWalk.i64_in _ (by omega) | rfl) ?_)
    | (refine Is_fieldAddr ?_; refine G_fieldOff rfl rfl ?_)
    | (refine Is_indexAddr ?_; first
      | refine G_indexA rfl rfl (by first | decide | omega) rfl ?_
      | refine G_indexP rfl rfl (by first | assumption | omega) rfl ?_)
    | (refine Is_un ?_; refine G_not rfl rfl ?_)
    | (refine Is_makeFunc ?_; refine G_makeFunc rfl rfl rfl ?_)
    | (refine Is_extract ?_; refine G_extract rfl rfl rfl ?_)
    | (refine Is_guard ?_; first
      | refine G_guard_yes (by rw [hops.eq]; rfl) rfl (by simp) ?_
      | refine G_guard_no (by rw [hops.eq]; rfl) rfl rfl rfl ?_)
    | (refine Is_pick ?_; first
      | refine G_pick_t rfl rfl rfl ?_
      | refine G_pick_f rfl rfl rfl ?_)
    | refine GC_cond_t rfl ?_
    | refine GC_cond_f rfl ?_
    | refine GC_seq ?_
    | refine GC_region (fun ops hops => ?_)
    | (refine G_nil ?_; try clear hops; try clear ops)
    | refine At_then ?_
    | refine GC_skip ?_
    | refine GC_block ?_
    | refine GC_exit ?_
    | refine GC_ret ?_
    | refine At_then_exit ?_
    | refine At_then_ret ?_
    | refine At_block ?_
    | refine At_block_ret ?_
    | refine At_block_hit ?_
    | refine At_block_miss rfl ?_
    | refine At_round_exit ?_
    | refine At_round_ret ?_)
  refine GC_draw [0, 1, 2, 3, 4, 5, 6, 7, 8, 9, 10, 11, 12, 13, 14, 15, 16, 17, 18, 19, 20, 21, 22, 23, 24, 25, 26, 27, 28, 29, 30, 31, 32, 33, 34, 35] [] 36 rfl (by kernel_rfl) (fun ops hops => ?_)
  repeat
    apply DR_x rfl rfl rfl
    (· intro mm
       (repeat (first
    | (refine Is_move ?_; refine G_move rfl rfl ?_)
    | (refine Is_assign ?_; refine G_assign rfl rfl ?_)
    | (refine Is_bin ?_; first
      | refine G_lss_t rfl rfl (by omega) rfl ?_
      | refine G_lss_f rfl rfl (by omega) rfl ?_
      | refine G_lss rfl rfl rfl ?_
      | refine G_add rfl rfl rfl (by first | exact IntWalk.i64_in _ (by omega) | rfl) ?_
      | refine G_eql_t rfl rfl (by first | with_reducible rfl | assumption | decide +kernel | omega) rfl ?_
      | refine G_eql_f rfl rfl (by first | decide +kernel | omega | assumption) rfl ?_
      | refine G_eql rfl rfl rfl ?_
      | refine G_neq_f rfl rfl (by first | with_reducible rfl | assumption | decide +kernel | omega) rfl ?_
      | refine G_neq_t rfl rfl (by first | decide +kernel | omega | assumption) rfl ?_
      | refine G_neq rfl rfl rfl ?_
      | refine G_leq_t rfl rfl (by omega) rfl ?_
      | refine G_leq_f rfl rfl (by omega) rfl ?_
      | refine G_leq rfl rfl rfl ?_
      | refine G_gtr_t rfl rfl (by omega) rfl ?_
      | refine G_gtr_f rfl rfl (by omega) rfl ?_
      | refine G_gtr rfl rfl rfl ?_
      | refine G_geq_t rfl rfl (by omega) rfl ?_
      | refine G_geq_f rfl rfl (by omega) rfl ?_
      | refine G_geq rfl rfl rfl ?_
      | refine G_sub rfl rfl rfl (by first | exact IntWalk.i64_in _ (by omega) | rfl) ?_
      | refine G_mul rfl rfl rfl (by first | exact IntWalk.i64_in _ (by omega) | rfl) ?_
      | refine G_xor64 rfl rfl rfl ?_
      | refine G_mul64 rfl rfl rfl ?_
      | refine G_or64 rfl rfl rfl ?_
      | refine G_and64 rfl rfl rfl ?_
      | refine G_add64 rfl rfl rfl ?_
      | refine G_sub64 rfl rfl rfl ?_
      | refine G_shr64 rfl rfl rfl rfl ?_
      | refine G_shl64 rfl rfl rfl rfl ?_
      | refine G_eqlB rfl rfl rfl ?_
      | refine G_neqB rfl rfl rfl ?_)
    | (refine Is_load ?_; first
      | refine G_load rfl rfl rfl ?_
      | refine G_load_cell rfl (by first | assumption | (apply_assumption; done) | fail) rfl ?_)
    | (refine Is_store ?_; refine G_store rfl rfl rfl rfl rfl ?_)
    | (refine Is_builtin ?_; first
      | refine G_len rfl rfl ?_)
    | (refine Is_nilCheck ?_; refine G_nilCheck rfl rfl ?_)
    | (refine Is_convert ?_; first
      | refine G_u64_int rfl rfl ?_
      | refine G_to_u64 rfl rfl ?_
      | refine G_conv _ rfl rfl (by first | exact IntWalk.i64_in _ (by omega) | rfl) ?_)
    | (refine Is_fieldAddr ?_; refine G_fieldOff rfl rfl ?_)
    | (refine Is_indexAddr ?_; first
      | refine G_indexA rfl rfl (by first | decide | omega) rfl ?_
      | refine G_indexP rfl rfl (by first | assumption | omega) rfl ?_)
    | (refine Is_un ?_; refine G_not rfl rfl ?_)
    | (refine Is_makeFunc ?_; refine G_makeFunc rfl rfl rfl ?_)
    | (refine Is_extract ?_; refine G_extract rfl rfl rfl ?_)
    | (refine Is_guard ?_; first
      | refine G_guard_yes (by rw [hops.eq]; rfl) rfl (by simp) ?_
      | refine G_guard_no (by rw [hops.eq]; rfl) rfl rfl rfl ?_)
    | (refine Is_pick ?_; first
      | refine G_pick_t rfl rfl rfl ?_
      | refine G_pick_f rfl rfl rfl ?_)
    | refine GC_cond_t rfl ?_
    | refine GC_cond_f rfl ?_
    | refine GC_seq ?_
    | refine GC_region (fun ops hops => ?_)
    | (refine G_nil ?_; try clear hops; try clear ops)
    | refine At_then ?_
    | refine GC_skip ?_
    | refine GC_block ?_
    | refine GC_exit ?_
    | refine GC_ret ?_
    | refine At_then_exit ?_
    | refine At_then_ret ?_
    | refine At_block ?_
    | refine At_block_ret ?_
    | refine At_block_hit ?_
    | refine At_block_miss rfl ?_
    | refine At_round_exit ?_
    | refine At_round_ret ?_))
       exact X_done rfl (List.Sublist.refl _))
  apply DR_x rfl rfl rfl
  · intro mm
    repeat (first
    | (refine Is_move ?_; refine G_move rfl rfl ?_)
    | (refine Is_assign ?_; refine G_assign rfl rfl ?_)
    | (refine Is_bin ?_; first
      | refine G_lss_t rfl rfl (by omega) rfl ?_
      | refine G_lss_f rfl rfl (by omega) rfl ?_
      | refine G_lss rfl rfl rfl ?_
      | refine G_add rfl rfl rfl (by first | exact IntWalk.i64_in _ (by omega) | rfl) ?_
      | refine G_eql_t rfl rfl (by first | with_reducible rfl | assumption | decide +kernel | omega) rfl ?_
      | refine G_eql_f rfl rfl (by first | decide +kernel | omega | assumption) rfl ?_
      | refine G_eql rfl rfl rfl ?_
      | refine G_neq_f rfl rfl (by first | with_reducible rfl | assumption | decide +kernel | omega) rfl ?_
      | refine G_neq_t rfl rfl (by first | decide +kernel | omega | assumption) rfl ?_
      | refine G_neq rfl rfl rfl ?_
      | refine G_leq_t rfl rfl (by omega) rfl ?_
      | refine G_leq_f rfl rfl (by omega) rfl ?_
      | refine G_leq rfl rfl rfl ?_
      | refine G_gtr_t rfl rfl (by omega) rfl ?_
      | refine G_gtr_f rfl rfl (by omega) rfl ?_
      | refine G_gtr rfl rfl rfl ?_
      | refine G_geq_t rfl rfl (by omega) rfl ?_
      | refine G_geq_f rfl rfl (by omega) rfl ?_
      | refine G_geq rfl rfl rfl ?_
      | refine G_sub rfl rfl rfl (by first | exact IntWalk.i64_in _ (by omega) | rfl) ?_
      | refine G_mul rfl rfl rfl (by first | exact IntWalk.i64_in _ (by omega) | rfl) ?_
      | refine G_xor64 rfl rfl rfl ?_
      | refine G_mul64 rfl rfl rfl ?_
      | refine G_or64 rfl rfl rfl ?_
      | refine G_and64 rfl rfl rfl ?_
      | refine G_add64 rfl rfl rfl ?_
      | refine G_sub64 rfl rfl rfl ?_
      | refine G_shr64 rfl rfl rfl rfl ?_
      | refine G_shl64 rfl rfl rfl rfl ?_
      | refine G_eqlB rfl rfl rfl ?_
      | refine G_neqB rfl rfl rfl ?_)
    | (refine Is_load ?_; first
      | refine G_load rfl rfl rfl ?_
      | refine G_load_cell rfl (by first | assumption | (apply_assumption; done) | fail) rfl ?_)
    | (refine Is_store ?_; refine G_store rfl rfl rfl rfl rfl ?_)
    | (refine Is_builtin ?_; first
      | refine G_len rfl rfl ?_)
    | (refine Is_nilCheck ?_; refine G_nilCheck rfl rfl ?_)
    | (refine Is_convert ?_; first
      | refine G_u64_int rfl rfl ?_
      | refine G_to_u64 rfl rfl ?_
      | refine G_conv _ rfl rfl (by first | exact IntWalk.i64_in _ (by omega) | rfl) ?_)
    | (refine Is_fieldAddr ?_; refine G_fieldOff rfl rfl ?_)
    | (refine Is_indexAddr ?_; first
      | refine G_indexA rfl rfl (by first | decide | omega) rfl ?_
      | refine G_indexP rfl rfl (by first | assumption | omega) rfl ?_)
    | (refine Is_un ?_; refine G_not rfl rfl ?_)
    | (refine Is_makeFunc ?_; refine G_makeFunc rfl rfl rfl ?_)
    | (refine Is_extract ?_; refine G_extract rfl rfl rfl ?_)
    | (refine Is_guard ?_; first
      | refine G_guard_yes (by rw [hops.eq]; rfl) rfl (by simp) ?_
      | refine G_guard_no (by rw [hops.eq]; rfl) rfl rfl rfl ?_)
    | (refine Is_pick ?_; first
      | refine G_pick_t rfl rfl rfl ?_
      | refine G_pick_f rfl rfl rfl ?_)
    | refine GC_cond_t rfl ?_
    | refine GC_cond_f rfl ?_
    | refine GC_seq ?_
    | refine GC_region (fun ops hops => ?_)
    | (refine G_nil ?_; try clear hops; try clear ops)
    | refine At_then ?_
    | refine GC_skip ?_
    | refine GC_block ?_
    | refine GC_exit ?_
    | refine GC_ret ?_
    | refine At_then_exit ?_
    | refine At_then_ret ?_
    | refine At_block ?_
    | refine At_block_ret ?_
    | refine At_block_hit ?_
    | refine At_block_miss rfl ?_
    | refine At_round_exit ?_
    | refine At_round_ret ?_)
    refine G_call rfl (fun w1 _ => dig_Join z0 z1 w1) rfl ?_
    repeat (first
    | (refine Is_move ?_; refine G_move rfl rfl ?_)
    | (refine Is_assign ?_; refine G_assign rfl rfl ?_)
    | (refine Is_bin ?_; first
      | refine G_lss_t rfl rfl (by omega) rfl ?_
      | refine G_lss_f rfl rfl (by omega) rfl ?_
      | refine G_lss rfl rfl rfl ?_
      | refine G_add rfl rfl rfl (by first | exact IntWalk.i64_in _ (by omega) | rfl) ?_
      | refine G_eql_t rfl rfl (by first | with_reducible rfl | assumption | decide +kernel | omega) rfl ?_
      | refine G_eql_f rfl rfl (by first | decide +kernel | omega | assumption) rfl ?_
      | refine G_eql rfl rfl rfl ?_
      | refine G_neq_f rfl rfl (by first | with_reducible rfl | assumption | decide +kernel | omega) rfl ?_
      | refine G_neq_t rfl rfl (by first | decide +kernel | omega | assumption) rfl ?_
      | refine G_neq rfl rfl rfl ?_
      | refine G_leq_t rfl rfl (by omega) rfl ?_
      | refine G_leq_f rfl rfl (by omega) rfl ?_
      | refine G_leq rfl rfl rfl ?_
      | refine G_gtr_t rfl rfl (by omega) rfl ?_
      | refine G_gtr_f rfl rfl (by omega) rfl ?_
      | refine G_gtr rfl rfl rfl ?_
      | refine G_geq_t rfl rfl (by omega) rfl ?_
      | refine G_geq_f rfl rfl (by omega) rfl ?_
      | refine G_geq rfl rfl rfl ?_
      | refine G_sub rfl rfl rfl (by first | exact IntWalk.i64_in _ (by omega) | rfl) ?_
      | refine G_mul rfl rfl rfl (by first | exact IntWalk.i64_in _ (by omega) | rfl) ?_
      | refine G_xor64 rfl rfl rfl ?_
      | refine G_mul64 rfl rfl rfl ?_
      | refine G_or64 rfl rfl rfl ?_
      | refine G_and64 rfl rfl rfl ?_
      | refine G_add64 rfl rfl rfl ?_
      | refine G_sub64 rfl rfl rfl ?_
      | refine G_shr64 rfl rfl rfl rfl ?_
      | refine G_shl64 rfl rfl rfl rfl ?_
      | refine G_eqlB rfl rfl rfl ?_
      | refine G_neqB rfl rfl rfl ?_)
    | (refine Is_load ?_; first
      | refine G_load rfl rfl rfl ?_
      | refine G_load_cell rfl (by first | assumption | (apply_assumption; done) | fail) rfl ?_)
    | (refine Is_store ?_; refine G_store rfl rfl rfl rfl rfl ?_)
    | (refine Is_builtin ?_; first
      | refine G_len rfl rfl ?_)
    | (refine Is_nilCheck ?_; refine G_nilCheck rfl rfl ?_)
    | (refine Is_convert ?_; first
      | refine G_u64_int rfl rfl ?_
      | refine G_to_u64 rfl rfl ?_
      | refine G_conv _ rfl rfl (by first | exact IntWalk.i64_in _ (by omega) | rfl) ?_)
    | (refine Is_fieldAddr ?_; refine G_fieldOff rfl rfl ?_)
    | (refine Is_indexAddr ?_; first
      | refine G_indexA rfl rfl (by first | decide | omega) rfl ?_
      | refine G_indexP rfl rfl (by first | assumption | omega) rfl ?_)
    | (refine Is_un ?_; refine G_not rfl rfl ?_)
    | (refine Is_makeFunc ?_; refine G_makeFunc rfl rfl rfl ?_)
    | (refine Is_extract ?_; refine G_extract rfl rfl rfl ?_)
    | (refine Is_guard ?_; first
      | refine G_guard_yes (by rw [hops.eq]; rfl) rfl (by simp) ?_
      | refine G_guard_no (by rw [hops.eq]; rfl) rfl rfl rfl ?_)
    | (refine Is_pick ?_; first
      | refine G_pick_t rfl rfl rfl ?_
      | refine G_pick_f rfl rfl rfl ?_)
    | refine GC_cond_t rfl ?_
    | refine GC_cond_f rfl ?_
    | refine GC_seq ?_
    | refine GC_region (fun ops hops => ?_)
    | (refine G_nil ?_; try clear hops; try clear ops)
    | refine At_then ?_
    | refine GC_skip ?_
    | refine GC_block ?_
    | refine GC_exit ?_
    | refine GC_ret ?_
    | refine At_then_exit ?_
    | refine At_then_ret ?_
    | refine At_block ?_
    | refine At_block_ret ?_
    | refine At_block_hit ?_
    | refine At_block_miss rfl ?_
    | refine At_round_exit ?_
    | refine At_round_ret ?_)
    (refine X_done rfl ?_; first | exact List.Sublist.refl _ | exact List.sublist_append_right _ _ | exact List.Sublist.cons _ (List.Sublist.refl _))
  repeat
    apply DR_x rfl rfl rfl
    (· intro mm
       (repeat (first
    | (refine Is_move ?_; refine G_move rfl rfl ?_)
    | (refine Is_assign ?_; refine G_assign rfl rfl ?_)
    | (refine Is_bin ?_; first
      | refine G_lss_t rfl rfl (by omega) rfl ?_
      | refine G_lss_f rfl rfl (by omega) rfl ?_
      | refine G_lss rfl rfl rfl ?_
      | refine G_add rfl rfl rfl (by first | exact IntWalk.i64_in _ (by omega) | rfl) ?_
      | refine G_eql_t rfl rfl (by first | with_reducible rfl | assumption | decide +kernel | omega) rfl ?_
      | refine G_eql_f rfl rfl (by first | decide +kernel | omega | assumption) rfl ?_
      | refine G_eql rfl rfl rfl ?_
      | refine G_neq_f rfl rfl (by first | with_reducible rfl | assumption | decide +kernel | omega) rfl ?_
      | refine G_neq_t rfl rfl (by first | decide +kernel | omega | assumption) rfl ?_
      | refine G_neq rfl rfl rfl ?_
      | refine G_leq_t rfl rfl (by omega) rfl ?_
      | refine G_leq_f rfl rfl (by omega) rfl ?_
      | refine G_leq rfl rfl rfl ?_
      | refine G_gtr_t rfl rfl (by omega) rfl ?_
      | refine G_gtr_f rfl rfl (by omega) rfl ?_
      | refine G_gtr rfl rfl rfl ?_
      | refine G_geq_t rfl rfl (by omega) rfl ?_
      | refine G_geq_f rfl rfl (by omega) rfl ?_
      | refine G_geq rfl rfl rfl ?_
      | refine G_sub rfl rfl rfl (by first | exact IntWalk.i64_in _ (by omega) | rfl) ?_
      | refine G_mul rfl rfl rfl (by first | exact IntWalk.i64_in _ (by omega) | rfl) ?_
      | refine G_xor64 rfl rfl rfl ?_
      | refine G_mul64 rfl rfl rfl ?_
      | refine G_or64 rfl rfl rfl ?_
      | refine G_and64 rfl rfl rfl ?_
      | refine G_add64 rfl rfl rfl ?_
      | refine G_sub64 rfl rfl rfl ?_
      | refine G_shr64 rfl rfl rfl rfl ?_
      | refine G_shl64 rfl rfl rfl rfl ?_
      | refine G_eqlB rfl rfl rfl ?_
      | refine G_neqB rfl rfl rfl ?_)
    | (refine Is_load ?_; first
      | refine G_load rfl rfl rfl ?_
      | refine G_load_cell rfl (by first | assumption | (apply_assumption; done) | fail) rfl ?_)
    | (refine Is_store ?_; refine G_store rfl rfl rfl rfl rfl ?_)
    | (refine Is_builtin ?_; first
      | refine G_len rfl rfl ?_)
    | (refine Is_nilCheck ?_; refine G_nilCheck rfl rfl ?_)
    | (refine Is_convert ?_; first
      | refine G_u64_int rfl rfl ?_
      | refine G_to_u64 rfl rfl ?_
      | refine G_conv _ rfl rfl (by first | exact IntWalk.i64_in _ (by omega) | rfl) ?_)
    | (refine Is_fieldAddr ?_; refine G_fieldOff rfl rfl ?_)
    | (refine Is_indexAddr ?_; first
      | refine G_indexA rfl rfl (by first | decide | omega) rfl ?_
      | refine G_indexP rfl rfl (by first | assumption | omega) rfl ?_)
    | (refine Is_un ?_; refine G_not rfl rfl ?_)
    | (refine Is_makeFunc ?_; refine G_makeFunc rfl rfl rfl ?_)
    | (refine Is_extract ?_; refine G_extract rfl rfl rfl ?_)
    | (refine Is_guard ?_; first
      | refine G_guard_yes (by rw [hops.eq]; rfl) rfl (by simp) ?_
      | refine G_guard_no (by rw [hops.eq]; rfl) rfl rfl rfl ?_)
    | (refine Is_pick ?_; first
      | refine G_pick_t rfl rfl rfl ?_
      | refine G_pick_f rfl rfl rfl ?_)
    | refine GC_cond_t rfl ?_
    | refine GC_cond_f rfl ?_
    | refine GC_seq ?_
    | refine GC_region (fun ops hops => ?_)
    | (refine G_nil ?_; try clear hops; try clear ops)
    | refine At_then ?_
    | refine GC_skip ?_
    | refine GC_block ?_
    | refine GC_exit ?_
    | refine GC_ret ?_
    | refine At_then_exit ?_
    | refine At_then_ret ?_
    | refine At_block ?_
    | refine At_block_ret ?_
    | refine At_block_hit ?_
    | refine At_block_miss rfl ?_
    | refine At_round_exit ?_
    | refine At_round_ret ?_))
       exact X_done rfl (List.Sublist.refl _))
  apply DR_x rfl rfl rfl
  · intro mm
    repeat (first
    | (refine Is_move ?_; refine G_move rfl rfl ?_)
    | (refine Is_assign ?_; refine G_assign rfl rfl ?_)
    | (refine Is_bin ?_; first
      | refine G_lss_t rfl rfl (by omega) rfl ?_
      | refine G_lss_f rfl rfl (by omega) rfl ?_
      | refine G_lss rfl rfl rfl ?_
      | refine G_add rfl rfl rfl (by first | exact IntWalk.i64_in _ (by omega) | rfl) ?_
      | refine G_eql_t rfl rfl (by first | with_reducible rfl | assumption | decide +kernel | omega) rfl ?_
      | refine G_eql_f rfl rfl (by first | decide +kernel | omega | assumption) rfl ?_
      | refine G_eql rfl rfl rfl ?_
      | refine G_neq_f rfl rfl (by first | with_reducible rfl | assumption | decide +kernel | omega) rfl ?_
      | refine G_neq_t rfl rfl (by first | decide +kernel | omega | assumption) rfl ?_
      | refine G_neq rfl rfl rfl ?_
      | refine G_leq_t rfl rfl (by omega) rfl ?_
      | refine G_leq_f rfl rfl (by omega) rfl ?_
      | refine G_leq rfl rfl rfl ?_
      | refine G_gtr_t rfl rfl (by omega) rfl ?_
      | refine G_gtr_f rfl rfl (by omega) rfl ?_
      | refine G_gtr rfl rfl rfl ?_
      | refine G_geq_t rfl rfl (by omega) rfl ?_
      | refine G_geq_f rfl rfl (by omega) rfl ?_
      | refine G_geq rfl rfl rfl ?_
      | refine G_sub rfl rfl rfl (by first | exact IntWalk.i64_in _ (by omega) | rfl) ?_
      | refine G_mul rfl rfl rfl (by first | exact IntWalk.i64_in _ (by omega) | rfl) ?_
      | refine G_xor64 rfl rfl rfl ?_
      | refine G_mul64 rfl rfl rfl ?_
      | refine G_or64 rfl rfl rfl ?_
      | refine G_and64 rfl rfl rfl ?_
      | refine G_add64 rfl rfl rfl ?_
      | refine G_sub64 rfl rfl rfl ?_
      | refine G_shr64 rfl rfl rfl rfl ?_
      | refine G_shl64 rfl rfl rfl rfl ?_
      | refine G_eqlB rfl rfl rfl ?_
      | refine G_neqB rfl rfl rfl ?_)
    | (refine Is_load ?_; first
      | refine G_load rfl rfl rfl ?_
      | refine G_load_cell rfl (by first | assumption | (apply_assumption; done) | fail) rfl ?_)
    | (refine Is_store ?_; refine G_store rfl rfl rfl rfl rfl ?_)
    | (refine Is_builtin ?_; first
      | refine G_len rfl rfl ?_)
    | (refine Is_nilCheck ?_; refine G_nilCheck rfl rfl ?_)
    | (refine Is_convert ?_; first
      | refine G_u64_int rfl rfl ?_
      | refine G_to_u64 rfl rfl ?_
      | refine G_conv _ rfl rfl (by first | exact IntWalk.i64_in _ (by omega) | rfl) ?_)
    | (refine Is_fieldAddr ?_; refine G_fieldOff rfl rfl ?_)
    | (refine Is_indexAddr ?_; first
      | refine G_indexA rfl rfl (by first | decide | omega) rfl ?_
      | refine G_indexP rfl rfl (by first | assumption | omega) rfl ?_)
    | (refine Is_un ?_; refine G_not rfl rfl ?_)
    | (refine Is_makeFunc ?_; refine G_makeFunc rfl rfl rfl ?_)
    | (refine Is_extract ?_; refine G_extract rfl rfl rfl ?_)
    | (refine Is_guard ?_; first
      | refine G_guard_yes (by rw [hops.eq]; rfl) rfl (by simp) ?_
      | refine G_guard_no (by rw [hops.eq]; rfl) rfl rfl rfl ?_)
    | (refine Is_pick ?_; first
      | refine G_pick_t rfl rfl rfl ?_
      | refine G_pick_f rfl rfl rfl ?_)
    | refine GC_cond_t rfl ?_
    | refine GC_cond_f rfl ?_
    | refine GC_seq ?_
    | refine GC_region (fun ops hops => ?_)
    | (refine G_nil ?_; try clear hops; try clear ops)
    | refine At_then ?_
    | refine GC_skip ?_
    | refine GC_block ?_
    | refine GC_exit ?_
    | refine GC_ret ?_
    | refine At_then_exit ?_
    | refine At_then_ret ?_
    | refine At_block ?_
    | refine At_block_ret ?_
    | refine At_block_hit ?_
    | refine At_block_miss rfl ?_
    | refine At_round_exit ?_
    | refine At_round_ret ?_)
    refine G_call rfl (fun w1 _ => dig_Join z2 z1 w1) rfl ?_
    repeat (first
    | (refine Is_move ?_; refine G_move rfl rfl ?_)
    | (refine Is_assign ?_; refine G_assign rfl rfl ?_)
    | (refine Is_bin ?_; first
      | refine G_lss_t rfl rfl (by omega) rfl ?_
      | refine G_lss_f rfl rfl (by omega) rfl ?_
      | refine G_lss rfl rfl rfl ?_
      | refine G_add rfl rfl rfl (by first | exact IntWalk.i64_in _ (by omega) | rfl) ?_
      | refine G_eql_t rfl rfl (by first | with_reducible rfl | assumption | decide +kernel | omega) rfl ?_
      | refine G_eql_f rfl rfl (by first | decide +kernel | omega | assumption) rfl ?_
      | refine G_eql rfl rfl rfl ?_
      | refine G_neq_f rfl rfl (by first | with_reducible rfl | assumption | decide +kernel | omega) rfl ?_
      | refine G_neq_t rfl rfl (by first | decide +kernel | omega | assumption) rfl ?_
      | refine G_neq rfl rfl rfl ?_
      | refine G_leq_t rfl rfl (by omega) rfl ?_
      | refine G_leq_f rfl rfl (by omega) rfl ?_
      | refine G_leq rfl rfl rfl ?_
      | refine G_gtr_t rfl rfl (by omega) rfl ?_
      | refine G_gtr_f rfl rfl (by omega) rfl ?_
      | refine G_gtr rfl rfl rfl ?_
      | refine G_geq_t rfl rfl (by omega) rfl ?_
      | refine G_geq_f rfl rfl (by omega) rfl ?_
      | refine G_geq rfl rfl rfl ?_
      | refine G_sub rfl rfl rfl (by first | exact IntWalk.i64_in _ (by omega) | rfl) ?_
      | refine G_mul rfl rfl rfl (by first | exact IntWalk.i64_in _ (by omega) | rfl) ?_
      | refine G_xor64 rfl rfl rfl ?_
      | refine G_mul64 rfl rfl rfl ?_
      | refine G_or64 rfl rfl rfl ?_
      | refine G_and64 rfl rfl rfl ?_
      | refine G_add64 rfl rfl rfl ?_
      | refine G_sub64 rfl rfl rfl ?_
      | refine G_shr64 rfl rfl rfl rfl ?_
      | refine G_shl64 rfl rfl rfl rfl ?_
      | refine G_eqlB rfl rfl rfl ?_
      | refine G_neqB rfl rfl rfl ?_)
    | (refine Is_load ?_; first
      | refine G_load rfl rfl rfl ?_
      | refine G_load_cell rfl (by first | assumption | (apply_assumption; done) | fail) rfl ?_)
    | (refine Is_store ?_; refine G_store rfl rfl rfl rfl rfl ?_)
    | (refine Is_builtin ?_; first
      | refine G_len rfl rfl ?_)
    | (refine Is_nilCheck ?_; refine G_nilCheck rfl rfl ?_)
    | (refine Is_convert ?_; first
      | refine G_u64_int rfl rfl ?_
      | refine G_to_u64 rfl rfl ?_
      | refine G_conv _ rfl rfl (by first | exact IntWalk.i64_in _ (by omega) | rfl) ?_)
    | (refine Is_fieldAddr ?_; refine G_fieldOff rfl rfl ?_)
    | (refine Is_indexAddr ?_; first
      | refine G_indexA rfl rfl (by first | decide | omega) rfl ?_
      | refine G_indexP rfl rfl (by first | assumption | omega) rfl ?_)
    | (refine Is_un ?_; refine G_not rfl rfl ?_)
    | (refine Is_makeFunc ?_; refine G_makeFunc rfl rfl rfl ?_)
    | (refine Is_extract ?_; refine G_extract rfl rfl rfl ?_)
    | (refine Is_guard ?_; first
      | refine G_guard_yes (by rw [hops.eq]; rfl) rfl (by simp) ?_
      | refine G_guard_no (by rw [hops.eq]; rfl) rfl rfl rfl ?_)
    | (refine Is_pick ?_; first
      | refine G_pick_t rfl rfl rfl ?_
      | refine G_pick_f rfl rfl rfl ?_)
    | refine GC_cond_t rfl ?_
    | refine GC_cond_f rfl ?_
    | refine GC_seq ?_
    | refine GC_region (fun ops hops => ?_)
    | (refine G_nil ?_; try clear hops; try clear ops)
    | refine At_then ?_
    | refine GC_skip ?_
    | refine GC_block ?_
    | refine GC_exit ?_
    | refine GC_ret ?_
    | refine At_then_exit ?_
    | refine At_then_ret ?_
    | refine At_block ?_
    | refine At_block_ret ?_
    | refine At_block_hit ?_
    | refine At_block_miss rfl ?_
    | refine At_round_exit ?_
    | refine At_round_ret ?_)
    (refine X_done rfl ?_; first | exact List.Sublist.refl _ | exact List.sublist_append_right _ _ | exact List.Sublist.cons _ (List.Sublist.refl _))
  repeat
    apply DR_x rfl rfl rfl
    (· intro mm
       (repeat (first
    | (refine Is_move ?_; refine G_move rfl rfl ?_)
    | (refine Is_assign ?_; refine G_assign rfl rfl ?_)
    | (refine Is_bin ?_; first
      | refine G_lss_t rfl rfl (by omega) rfl ?_
      | refine G_lss_f rfl rfl (by omega) rfl ?_
      | refine G_lss rfl rfl rfl ?_
      | refine G_add rfl rfl rfl (by first | exact IntWalk.i64_in _ (by omega) | rfl) ?_
      | refine G_eql_t rfl rfl (by first | with_reducible rfl | assumption | decide +kernel | omega) rfl ?_
      | refine G_eql_f rfl rfl (by first | decide +kernel | omega | assumption) rfl ?_
      | refine G_eql rfl rfl rfl ?_
      | refine G_neq_f rfl rfl (by first | with_reducible rfl | assumption | decide +kernel | omega) rfl ?_
      | refine G_neq_t rfl rfl (by first | decide +kernel | omega | assumption) rfl ?_
      | refine G_neq rfl rfl rfl ?_
      | refine G_leq_t rfl rfl (by omega) rfl ?_
      | refine G_leq_f rfl rfl (by omega) rfl ?_
      | refine G_leq rfl rfl rfl ?_
      | refine G_gtr_t rfl rfl (by omega) rfl ?_
      | refine G_gtr_f rfl rfl (by omega) rfl ?_
      | refine G_gtr rfl rfl rfl ?_
      | refine G_geq_t rfl rfl (by omega) rfl ?_
      | refine G_geq_f rfl rfl (by omega) rfl ?_
      | refine G_geq rfl rfl rfl ?_
      | refine G_sub rfl rfl rfl (by first | exact IntWalk.i64_in _ (by omega) | rfl) ?_
      | refine G_mul rfl rfl rfl (by first | exact IntWalk.i64_in _ (by omega) | rfl) ?_
      | refine G_xor64 rfl rfl rfl ?_
      | refine G_mul64 rfl rfl rfl ?_
      | refine G_or64 rfl rfl rfl ?_
      | refine G_and64 rfl rfl rfl ?_
      | refine G_add64 rfl rfl rfl ?_
      | refine G_sub64 rfl rfl rfl ?_
      | refine G_shr64 rfl rfl rfl rfl ?_
      | refine G_shl64 rfl rfl rfl rfl ?_
      | refine G_eqlB rfl rfl rfl ?_
      | refine G_neqB rfl rfl rfl ?_)
    | (refine Is_load ?_; first
      | refine G_load rfl rfl rfl ?_
      | refine G_load_cell rfl (by first | assumption | (apply_assumption; done) | fail) rfl ?_)
    | (refine Is_store ?_; refine G_store rfl rfl rfl rfl rfl ?_)
    | (refine Is_builtin ?_; first
      | refine G_len rfl rfl ?_)
    | (refine Is_nilCheck ?_; refine G_nilCheck rfl rfl ?_)
    | (refine Is_convert ?_; first
      | refine G_u64_int rfl rfl ?_
      | refine G_to_u64 rfl rfl ?_
      | refine G_conv _ rfl rfl (by first | exact IntWalk.i64_in _ (by omega) | rfl) ?_)
    | (refine Is_fieldAddr ?_; refine G_fieldOff rfl rfl ?_)
    | (refine Is_indexAddr ?_; first
      | refine G_indexA rfl rfl (by first | decide | omega) rfl ?_
      | refine G_indexP rfl rfl (by first | assumption | omega) rfl ?_)
    | (refine Is_un ?_; refine G_not rfl rfl ?_)
    | (refine Is_makeFunc ?_; refine G_makeFunc rfl rfl rfl ?_)
    | (refine Is_extract ?_; refine G_extract rfl rfl rfl ?_)
    | (refine Is_guard ?_; first
      | refine G_guard_yes (by rw [hops.eq]; rfl) rfl (by simp) ?_
      | refine G_guard_no (by rw [hops.eq]; rfl) rfl rfl rfl ?_)
    | (refine Is_pick ?_; first
      | refine G_pick_t rfl rfl rfl ?_
      | refine G_pick_f rfl rfl rfl ?_)
    | refine GC_cond_t rfl ?_
    | refine GC_cond_f rfl ?_
    | refine GC_seq ?_
    | refine GC_region (fun ops hops => ?_)
    | (refine G_nil ?_; try clear hops; try clear ops)
    | refine At_then ?_
    | refine GC_skip ?_
    | refine GC_block ?_
    | refine GC_exit ?_
    | refine GC_ret ?_
    | refine At_then_exit ?_
    | refine At_then_ret ?_
    | refine At_block ?_
    | refine At_block_ret ?_
    | refine At_block_hit ?_
    | refine At_block_miss rfl ?_
    | refine At_round_exit ?_
    | refine At_round_ret ?_))
       exact X_done rfl (List.Sublist.refl _))
  rw [decs joins_l]
  repeat
    apply DR_x rfl rfl rfl
    (· intro mm
       (repeat (first
    | (refine Is_move ?_; refine G_move rfl rfl ?_)
    | (refine Is_assign ?_; refine G_assign rfl rfl ?_)
    | (refine Is_bin ?_; first
      | refine G_lss_t rfl rfl (by omega) rfl ?_
      | refine G_lss_f rfl rfl (by omega) rfl ?_
      | refine G_lss rfl rfl rfl ?_
      | refine G_add rfl rfl rfl (by first | exact IntWalk.i64_in _ (by omega) | rfl) ?_
      | refine G_eql_t rfl rfl (by first | with_reducible rfl | assumption | decide +kernel | omega) rfl ?_
      | refine G_eql_f rfl rfl (by first | decide +kernel | omega | assumption) rfl ?_
      | refine G_eql rfl rfl rfl ?_
      | refine G_neq_f rfl rfl (by first | with_reducible rfl | assumption | decide +kernel | omega) rfl ?_
      | refine G_neq_t rfl rfl (by first | decide +kernel | omega | assumption) rfl ?_
      | refine G_neq rfl rfl rfl ?_
      | refine G_leq_t rfl rfl (by omega) rfl ?_
      | refine G_leq_f rfl rfl (by omega) rfl ?_
      | refine G_leq rfl rfl rfl ?_
      | refine G_gtr_t rfl rfl (by omega) rfl ?_
      | refine G_gtr_f rfl rfl (by omega) rfl ?_
      | refine G_gtr rfl rfl rfl ?_
      | refine G_geq_t rfl rfl (by omega) rfl ?_
      | refine G_geq_f rfl rfl (by omega) rfl ?_
      | refine G_geq rfl rfl rfl ?_
      | refine G_sub rfl rfl rfl (by first | exact IntWalk.i64_in _ (by omega) | rfl) ?_
      | refine G_mul rfl rfl rfl (by first | exact IntWalk.i64_in _ (by omega) | rfl) ?_
      | refine G_xor64 rfl rfl rfl ?_
      | refine G_mul64 rfl rfl rfl ?_
      | refine G_or64 rfl rfl rfl ?_
      | refine G_and64 rfl rfl rfl ?_
      | refine G_add64 rfl rfl rfl ?_
      | refine G_sub64 rfl rfl rfl ?_
      | refine G_shr64 rfl rfl rfl rfl ?_
      | refine G_shl64 rfl rfl rfl rfl ?_
      | refine G_eqlB rfl rfl rfl ?_
      | refine G_neqB rfl rfl rfl ?_)
    | (refine Is_load ?_; first
      | refine G_load rfl rfl rfl ?_
      | refine G_load_cell rfl (by first | assumption | (apply_assumption; done) | fail) rfl ?_)
    | (refine Is_store ?_; refine G_store rfl rfl rfl rfl rfl ?_)
    | (refine Is_builtin ?_; first
      | refine G_len rfl rfl ?_)
    | (refine Is_nilCheck ?_; refine G_nilCheck rfl rfl ?_)
    | (refine Is_convert ?_; first
      | refine G_u64_int rfl rfl ?_
      | refine G_to_u64 rfl rfl ?_
      | refine G_conv _ rfl rfl (by first | exact IntWalk.i64_in _ (by omega) | rfl) ?_)
    | (refine Is_fieldAddr ?_; refine G_fieldOff rfl rfl ?_)
    | (refine Is_indexAddr ?_; first
      | refine G_indexA rfl rfl (by first | decide | omega) rfl ?_
      | refine G_indexP rfl rfl (by first | assumption | omega) rfl ?_)
    | (refine Is_un ?_; refine G_not rfl rfl ?_)
    | (refine Is_makeFunc ?_; refine G_makeFunc rfl rfl rfl ?_)
    | (refine Is_extract ?_; refine G_extract rfl rfl rfl ?_)
    | (refine Is_guard ?_; first
      | refine G_guard_yes (by rw [hops.eq]; rfl) rfl (by simp) ?_
      | refine G_guard_no (by rw [hops.eq]; rfl) rfl rfl rfl ?_)
    | (refine Is_pick ?_; first
      | refine G_pick_t rfl rfl rfl ?_
      | refine G_pick_f rfl rfl rfl ?_)
    | refine GC_cond_t rfl ?_
    | refine GC_cond_f rfl ?_
    | refine GC_seq ?_
    | refine GC_region (fun ops hops => ?_)
    | (refine G_nil ?_; try clear hops; try clear ops)
    | refine At_then ?_
    | refine GC_skip ?_
    | refine GC_block ?_
    | refine GC_exit ?_
    | refine GC_ret ?_
    | refine At_then_exit ?_
    | refine At_then_ret ?_
    | refine At_block ?_
    | refine At_block_ret ?_
    | refine At_block_hit ?_
    | refine At_block_miss rfl ?_
    | refine At_round_exit ?_
    | refine At_round_ret ?_))
       exact X_done rfl (List.Sublist.refl _))
  apply DR_x rfl rfl rfl
  · intro mm
    repeat (first
    | (refine Is_move ?_; refine G_move rfl rfl ?_)
    | (refine Is_assign ?_; refine G_assign rfl rfl ?_)
    | (refine Is_bin ?_; first
      | refine G_lss_t rfl rfl (by omega) rfl ?_
      | refine G_lss_f rfl rfl (by omega) rfl ?_
      | refine G_lss rfl rfl rfl ?_
      | refine G_add rfl rfl rfl (by first | exact IntWalk.i64_in _ (by omega) | rfl) ?_
      | refine G_eql_t rfl rfl (by first | with_reducible rfl | assumption | decide +kernel | omega) rfl ?_
      | refine G_eql_f rfl rfl (by first | decide +kernel | omega | assumption) rfl ?_
      | refine G_eql rfl rfl rfl ?_
      | refine G_neq_f rfl rfl (by first | with_reducible rfl | assumption | decide +kernel | omega) rfl ?_
      | refine G_neq_t rfl rfl (by first | decide +kernel | omega | assumption) rfl ?_
      | refine G_neq rfl rfl rfl ?_
      | refine G_leq_t rfl rfl (by omega) rfl ?_
      | refine G_leq_f rfl rfl (by omega) rfl ?_
      | refine G_leq rfl rfl rfl ?_
      | refine G_gtr_t rfl rfl (by omega) rfl ?_
      | refine G_gtr_f rfl rfl (by omega) rfl ?_
      | refine G_gtr rfl rfl rfl ?_
      | refine G_geq_t rfl rfl (by omega) rfl ?_
      | refine G_geq_f rfl rfl (by omega) rfl ?_
      | refine G_geq rfl rfl rfl ?_
      | refine G_sub rfl rfl rfl (by first | exact IntWalk.i64_in _ (by omega) | rfl) ?_
      | refine G_mul rfl rfl rfl (by first | exact IntWalk.i64_in _ (by omega) | rfl) ?_
      | refine G_xor64 rfl rfl rfl ?_
      | refine G_mul64 rfl rfl rfl ?_
      | refine G_or64 rfl rfl rfl ?_
      | refine G_and64 rfl rfl rfl ?_
      | refine G_add64 rfl rfl rfl ?_
      | refine G_sub64 rfl rfl rfl ?_
      | refine G_shr64 rfl rfl rfl rfl ?_
      | refine G_shl64 rfl rfl rfl rfl ?_
      | refine G_eqlB rfl rfl rfl ?_
      | refine G_neqB rfl rfl rfl ?_)
    | (refine Is_load ?_; first
      | refine G_load rfl rfl rfl ?_
      | refine G_load_cell rfl (by first | assumption | (apply_assumption; done) | fail) rfl ?_)
    | (refine Is_store ?_; refine G_store rfl rfl rfl rfl rfl ?_)
    | (refine Is_builtin ?_; first
      | refine G_len rfl rfl ?_)
    | (refine Is_nilCheck ?_; refine G_nilCheck rfl rfl ?_)
    | (refine Is_convert ?_; first
      | refine G_u64_int rfl rfl ?_
      | refine G_to_u64 rfl rfl ?_
      | refine G_conv _ rfl rfl (by first | exact IntWalk.i64_in _ (by omega) | rfl) ?_)
    | (refine Is_fieldAddr ?_; refine G_fieldOff rfl rfl ?_)
    | (refine Is_indexAddr ?_; first
      | refine G_indexA rfl rfl (by first | decide | omega) rfl ?_
      | refine G_indexP rfl rfl (by first | assumption | omega) rfl ?_)
    | (refine Is_un ?_; refine G_not rfl rfl ?_)
    | (refine Is_makeFunc ?_; refine G_makeFunc rfl rfl rfl ?_)
    | (refine Is_extract ?_; refine G_extract rfl rfl rfl ?_)
    | (refine Is_guard ?_; first
      | refine G_guard_yes (by rw [hops.eq]; rfl) rfl (by simp) ?_
      | refine G_guard_no (by rw [hops.eq]; rfl) rfl rfl rfl ?_)
    | (refine Is_pick ?_; first
      | refine G_pick_t rfl rfl rfl ?_
      | refine G_pick_f rfl rfl rfl ?_)
    | refine GC_cond_t rfl ?_
    | refine GC_cond_f rfl ?_
    | refine GC_seq ?_
    | refine GC_region (fun ops hops => ?_)
    | (refine G_nil ?_; try clear hops; try clear ops)
    | refine At_then ?_
    | refine GC_skip ?_
    | refine GC_block ?_
    | refine GC_exit ?_
    | refine GC_ret ?_
    | refine At_then_exit ?_
    | refine At_then_ret ?_
    | refine At_block ?_
    | refine At_block_ret ?_
    | refine At_block_hit ?_
    | refine At_block_miss rfl ?_
    | refine At_round_exit ?_
    | refine At_round_ret ?_)
    refine G_call rfl (fun w1 _ => dig_Join z0 z1 w1) rfl ?_
    repeat (first
    | (refine Is_move ?_; refine G_move rfl rfl ?_)
    | (refine Is_assign ?_; refine G_assign rfl rfl ?_)
    | (refine Is_bin ?_; first
      | refine G_lss_t rfl rfl (by omega) rfl ?_
      | refine G_lss_f rfl rfl (by omega) rfl ?_
      | refine G_lss rfl rfl rfl ?_
      | refine G_add rfl rfl rfl (by first | exact IntWalk.i64_in _ (by omega) | rfl) ?_
      | refine G_eql_t rfl rfl (by first | with_reducible rfl | assumption | decide +kernel | omega) rfl ?_
      | refine G_eql_f rfl rfl (by first | decide +kernel | omega | assumption) rfl ?_
      | refine G_eql rfl rfl rfl ?_
      | refine G_neq_f rfl rfl (by first | with_reducible rfl | assumption | decide +kernel | omega) rfl ?_
      | refine G_neq_t rfl rfl (by first | decide +kernel | omega | assumption) rfl ?_
      | refine G_neq rfl rfl rfl ?_
      | refine G_leq_t rfl rfl (by omega) rfl ?_
      | refine G_leq_f rfl rfl (by omega) rfl ?_
      | refine G_leq rfl rfl rfl ?_
      | refine G_gtr_t rfl rfl (by omega) rfl ?_
      | refine G_gtr_f rfl rfl (by omega) rfl ?_
      | refine G_gtr rfl rfl rfl ?_
      | refine G_geq_t rfl rfl (by omega) rfl ?_
      | refine G_geq_f rfl rfl (by omega) rfl ?_
      | refine G_geq rfl rfl rfl ?_
      | refine G_sub rfl rfl rfl (by first | exact IntWalk.i64_in _ (by omega) | rfl) ?_
      | refine G_mul rfl rfl rfl (by first | exact IntWalk.i64_in _ (by omega) | rfl) ?_
      | refine G_xor64 rfl rfl rfl ?_
      | refine G_mul64 rfl rfl rfl ?_
      | refine G_or64 rfl rfl rfl ?_
      | refine G_and64 rfl rfl rfl ?_
      | refine G_add64 rfl rfl rfl ?_
      | refine G_sub64 rfl rfl rfl ?_
      | refine G_shr64 rfl rfl rfl rfl ?_
      | refine G_shl64 rfl rfl rfl rfl ?_
      | refine G_eqlB rfl rfl rfl ?_
      | refine G_neqB rfl rfl rfl ?_)
    | (refine Is_load ?_; first
      | refine G_load rfl rfl rfl ?_
      | refine G_load_cell rfl (by first | assumption | (apply_assumption; done) | fail) rfl ?_)
    | (refine Is_store ?_; refine G_store rfl rfl rfl rfl rfl ?_)
    | (refine Is_builtin ?_; first
      | refine G_len rfl rfl ?_)
    | (refine Is_nilCheck ?_; refine G_nilCheck rfl rfl ?_)
    | (refine Is_convert ?_; first
      | refine G_u64_int rfl rfl ?_
      | refine G_to_u64 rfl rfl ?_
      | refine G_conv _ rfl rfl (by first | exact IntWalk.i64_in _ (by omega) | rfl) ?_)
    | (refine Is_fieldAddr ?_; refine G_fieldOff rfl rfl ?_)
    | (refine Is_indexAddr ?_; first
      | refine G_indexA rfl rfl (by first | decide | omega) rfl ?_
      | refine G_indexP rfl rfl (by first | assumption | omega) rfl ?_)
    | (refine Is_un ?_; refine G_not rfl rfl ?_)
    | (refine Is_makeFunc ?_; refine G_makeFunc rfl rfl rfl ?_)
    | (refine Is_extract ?_; refine G_extract rfl rfl rfl ?_)
    | (refine Is_guard ?_; first
      | refine G_guard_yes (by rw [hops.eq]; rfl) rfl (by simp) ?_
      | refine G_guard_no (by rw [hops.eq]; rfl) rfl rfl rfl ?_)
    | (refine Is_pick ?_; first
      | refine G_pick_t rfl rfl rfl ?_
      | refine G_pick_f rfl rfl rfl ?_)
    | refine GC_cond_t rfl ?_
    | refine GC_cond_f rfl ?_
    | refine GC_seq ?_
    | refine GC_region (fun ops hops => ?_)
    | (refine G_nil ?_; try clear hops; try clear ops)
    | refine At_then ?_
    | refine GC_skip ?_
    | refine GC_block ?_
    | refine GC_exit ?_
    | refine GC_ret ?_
    | refine At_then_exit ?_
    | refine At_then_ret ?_
    | refine At_block ?_
    | refine At_block_ret ?_
    | refine At_block_hit ?_
    | refine At_block_miss rfl ?_
    | refine At_round_exit ?_
    | refine At_round_ret ?_)
    (refine X_done rfl ?_; first | exact List.Sublist.refl _ | exact List.sublist_append_right _ _ | exact List.Sublist.cons _ (List.Sublist.refl _))
  repeat
    apply DR_x rfl rfl rfl
    (· intro mm
       (repeat (first
    | (refine Is_move ?_; refine G_move rfl rfl ?_)
    | (refine Is_assign ?_; refine G_assign rfl rfl ?_)
    | (refine Is_bin ?_; first
      | refine G_lss_t rfl rfl (by omega) rfl ?_
      | refine G_lss_f rfl rfl (by omega) rfl ?_
      | refine G_lss rfl rfl rfl ?_
      | refine G_add rfl rfl rfl (by first | exact IntWalk.i64_in _ (by omega) | rfl) ?_
      | refine G_eql_t rfl rfl (by first | with_reducible rfl | assumption | decide +kernel | omega) rfl ?_
      | refine G_eql_f rfl rfl (by first | decide +kernel | omega | assumption) rfl ?_
      | refine G_eql rfl rfl rfl ?_
      | refine G_neq_f rfl rfl (by first | with_reducible rfl | assumption | decide +kernel | omega) rfl ?_
      | refine G_neq_t rfl rfl (by first | decide +kernel | omega | assumption) rfl ?_
      | refine G_neq rfl rfl rfl ?_
      | refine G_leq_t rfl rfl (by omega) rfl ?_
      | refine G_leq_f rfl rfl (by omega) rfl ?_
      | refine G_leq rfl rfl rfl ?_
      | refine G_gtr_t rfl rfl (by omega) rfl ?_
      | refine G_gtr_f rfl rfl (by omega) rfl ?_
      | refine G_gtr rfl rfl rfl ?_
      | refine G_geq_t rfl rfl (by omega) rfl ?_
      | refine G_geq_f rfl rfl (by omega) rfl ?_
      | refine G_geq rfl rfl rfl ?_
      | refine G_sub rfl rfl rfl (by first | exact IntWalk.i64_in _ (by omega) | rfl) ?_
      | refine G_mul rfl rfl rfl (by first | exact IntWalk.i64_in _ (by omega) | rfl) ?_
      | refine G_xor64 rfl rfl rfl ?_
      | refine G_mul64 rfl rfl rfl ?_
      | refine G_or64 rfl rfl rfl ?_
      | refine G_and64 rfl rfl rfl ?_
      | refine G_add64 rfl rfl rfl ?_
      | refine G_sub64 rfl rfl rfl ?_
      | refine G_shr64 rfl rfl rfl rfl ?_
      | refine G_shl64 rfl rfl rfl rfl ?_
      | refine G_eqlB rfl rfl rfl ?_
      | refine G_neqB rfl rfl rfl ?_)
    | (refine Is_load ?_; first
      | refine G_load rfl rfl rfl ?_
      | refine G_load_cell rfl (by first | assumption | (apply_assumption; done) | fail) rfl ?_)
    | (refine Is_store ?_; refine G_store rfl rfl rfl rfl rfl ?_)
    | (refine Is_builtin ?_; first
      | refine G_len rfl rfl ?_)
    | (refine Is_nilCheck ?_; refine G_nilCheck rfl rfl ?_)
    | (refine Is_convert ?_; first
      | refine G_u64_int rfl rfl ?_
      | refine G_to_u64 rfl rfl ?_
      | refine G_conv _ rfl rfl (by first | exact IntWalk.i64_in _ (by omega) | rfl) ?_)
    | (refine Is_fieldAddr ?_; refine G_fieldOff rfl rfl ?_)
    | (refine Is_indexAddr ?_; first
      | refine G_indexA rfl rfl (by first | decide | omega) rfl ?_
      | refine G_indexP rfl rfl (by first | assumption | omega) rfl ?_)
    | (refine Is_un ?_; refine G_not rfl rfl ?_)
    | (refine Is_makeFunc ?_; refine G_makeFunc rfl rfl rfl ?_)
    | (refine Is_extract ?_; refine G_extract rfl rfl rfl ?_)
    | (refine Is_guard ?_; first
      | refine G_guard_yes (by rw [hops.eq]; rfl) rfl (by simp) ?_
      | refine G_guard_no (by rw [hops.eq]; rfl) rfl rfl rfl ?_)
    | (refine Is_pick ?_; first
      | refine G_pick_t rfl rfl rfl ?_
      | refine G_pick_f rfl rfl rfl ?_)
    | refine GC_cond_t rfl ?_
    | refine GC_cond_f rfl ?_
    | refine GC_seq ?_
    | refine GC_region (fun ops hops => ?_)
    | (refine G_nil ?_; try clear hops; try clear ops)
    | refine At_then ?_
    | refine GC_skip ?_
    | refine GC_block ?_
    | refine GC_exit ?_
    | refine GC_ret ?_
    | refine At_then_exit ?_
    | refine At_then_ret ?_
    | refine At_block ?_
    | refine At_block_ret ?_
    | refine At_block_hit ?_
    | refine At_block_miss rfl ?_
    | refine At_round_exit ?_
    | refine At_round_ret ?_))
       exact X_done rfl (List.Sublist.refl _))
  apply DR_x rfl rfl rfl
  · intro mm
    repeat (first
    | (refine Is_move ?_; refine G_move rfl rfl ?_)
    | (refine Is_assign ?_; refine G_assign rfl rfl ?_)
    | (refine Is_bin ?_; first
      | refine G_lss_t rfl rfl (by omega) rfl ?_
      | refine G_lss_f rfl rfl (by omega) rfl ?_
      | refine G_lss rfl rfl rfl ?_
      | refine G_add rfl rfl rfl (by first | exact IntWalk.i64_in _ (by omega) | rfl) ?_
      | refine G_eql_t rfl rfl (by first | with_reducible rfl | assumption | decide +kernel | omega) rfl ?_
      | refine G_eql_f rfl rfl (by first | decide +kernel | omega | assumption) rfl ?_
      | refine G_eql rfl rfl rfl ?_
      | refine G_neq_f rfl rfl (by first | with_reducible rfl | assumption | decide +kernel | omega) rfl ?_
      | refine G_neq_t rfl rfl (by first | decide +kernel | omega | assumption) rfl ?_
      | refine G_neq rfl rfl rfl ?_
      | refine G_leq_t rfl rfl (by omega) rfl ?_
      | refine G_leq_f rfl rfl (by omega) rfl ?_
      | refine G_leq rfl rfl rfl ?_
      | refine G_gtr_t rfl rfl (by omega) rfl ?_
      | refine G_gtr_f rfl rfl (by omega) rfl ?_
      | refine G_gtr rfl rfl rfl ?_
      | refine G_geq_t rfl rfl (by omega) rfl ?_
      | refine G_geq_f rfl rfl (by omega) rfl ?_
      | refine G_geq rfl rfl rfl ?_
      | refine G_sub rfl rfl rfl (by first | exact IntWalk.i64_in _ (by omega) | rfl) ?_
      | refine G_mul rfl rfl rfl (by first | exact IntWalk.i64_in _ (by omega) | rfl) ?_
      | refine G_xor64 rfl rfl rfl ?_
      | refine G_mul64 rfl rfl rfl ?_
      | refine G_or64 rfl rfl rfl ?_
      | refine G_and64 rfl rfl rfl ?_
      | refine G_add64 rfl rfl rfl ?_
      | refine G_sub64 rfl rfl rfl ?_
      | refine G_shr64 rfl rfl rfl rfl ?_
      | refine G_shl64 rfl rfl rfl rfl ?_
      | refine G_eqlB rfl rfl rfl ?_
      | refine G_neqB rfl rfl rfl ?_)
    | (refine Is_load ?_; first
      | refine G_load rfl rfl rfl ?_
      | refine G_load_cell rfl (by first | assumption | (apply_assumption; done) | fail) rfl ?_)
    | (refine Is_store ?_; refine G_store rfl rfl rfl rfl rfl ?_)
    | (refine Is_builtin ?_; first
      | refine G_len rfl rfl ?_)
    | (refine Is_nilCheck ?_; refine G_nilCheck rfl rfl ?_)
    | (refine Is_convert ?_; first
      | refine G_u64_int rfl rfl ?_
      | refine G_to_u64 rfl rfl ?_
      | refine G_conv _ rfl rfl (by first | exact IntWalk.i64_in _ (by omega) | rfl) ?_)
    | (refine Is_fieldAddr ?_; refine G_fieldOff rfl rfl ?_)
    | (refine Is_indexAddr ?_; first
      | refine G_indexA rfl rfl (by first | decide | omega) rfl ?_
      | refine G_indexP rfl rfl (by first | assumption | omega) rfl ?_)
    | (refine Is_un ?_; refine G_not rfl rfl ?_)
    | (refine Is_makeFunc ?_; refine G_makeFunc rfl rfl rfl ?_)
    | (refine Is_extract ?_; refine G_extract rfl rfl rfl ?_)
    | (refine Is_guard ?_; first
      | refine G_guard_yes (by rw [hops.eq]; rfl) rfl (by simp) ?_
      | refine G_guard_no (by rw [hops.eq]; rfl) rfl rfl rfl ?_)
    | (refine Is_pick ?_; first
      | refine G_pick_t rfl rfl rfl ?_
      | refine G_pick_f rfl rfl rfl ?_)
    | refine GC_cond_t rfl ?_
    | refine GC_cond_f rfl ?_
    | refine GC_seq ?_
    | refine GC_region (fun ops hops => ?_)
    | (refine G_nil ?_; try clear hops; try clear ops)
    | refine At_then ?_
    | refine GC_skip ?_
    | refine GC_block ?_
    | refine GC_exit ?_
    | refine GC_ret ?_
    | refine At_then_exit ?_
    | refine At_then_ret ?_
    | refine At_block ?_
    | refine At_block_ret ?_
    | refine At_block_hit ?_
    | refine At_block_miss rfl ?_
    | refine At_round_exit ?_
    | refine At_round_ret ?_)
    refine G_call rfl (fun w1 _ => dig_Join z0 z2 w1) rfl ?_
    repeat (first
    | (refine Is_move ?_; refine G_move rfl rfl ?_)
    | (refine Is_assign ?_; refine G_assign rfl rfl ?_)
    | (refine Is_bin ?_; first
      | refine G_lss_t rfl rfl (by omega) rfl ?_
      | refine G_lss_f rfl rfl (by omega) rfl ?_
      | refine G_lss rfl rfl rfl ?_
      | refine G_add rfl rfl rfl (by first | exact IntWalk.i64_in _ (by omega) | rfl) ?_
      | refine G_eql_t rfl rfl (by first | with_reducible rfl | assumption | decide +kernel | omega) rfl ?_
      | refine G_eql_f rfl rfl (by first | decide +kernel | omega | assumption) rfl ?_
      | refine G_eql rfl rfl rfl ?_
      | refine G_neq_f rfl rfl (by first | with_reducible rfl | assumption | decide +kernel | omega) rfl ?_
      | refine G_neq_t rfl rfl (by first | decide +kernel | omega | assumption) rfl ?_
      | refine G_neq rfl rfl rfl ?_
      | refine G_leq_t rfl rfl (by omega) rfl ?_
      | refine G_leq_f rfl rfl (by omega) rfl ?_
      | refine G_leq rfl rfl rfl ?_
      | refine G_gtr_t rfl rfl (by omega) rfl ?_
      | refine G_gtr_f rfl rfl (by omega) rfl ?_
      | refine G_gtr rfl rfl rfl ?_
      | refine G_geq_t rfl rfl (by omega) rfl ?_
      | refine G_geq_f rfl rfl (by omega) rfl ?_
      | refine G_geq rfl rfl rfl ?_
      | refine G_sub rfl rfl rfl (by first | exact IntWalk.i64_in _ (by omega) | rfl) ?_
      | refine G_mul rfl rfl rfl (by first | exact IntWalk.i64_in _ (by omega) | rfl) ?_
      | refine G_xor64 rfl rfl rfl ?_
      | refine G_mul64 rfl rfl rfl ?_
      | refine G_or64 rfl rfl rfl ?_
      | refine G_and64 rfl rfl rfl ?_
      | refine G_add64 rfl rfl rfl ?_
      | refine G_sub64 rfl rfl rfl ?_
      | refine G_shr64 rfl rfl rfl rfl ?_
      | refine G_shl64 rfl rfl rfl rfl ?_
      | refine G_eqlB rfl rfl rfl ?_
      | refine G_neqB rfl rfl rfl ?_)
    | (refine Is_load ?_; first
      | refine G_load rfl rfl rfl ?_
      | refine G_load_cell rfl (by first | assumption | (apply_assumption; done) | fail) rfl ?_)
    | (refine Is_store ?_; refine G_store rfl rfl rfl rfl rfl ?_)
    | (refine Is_builtin ?_; first
      | refine G_len rfl rfl ?_)
    | (refine Is_nilCheck ?_; refine G_nilCheck rfl rfl ?_)
    | (refine Is_convert ?_; first
      | refine G_u64_int rfl rfl ?_
      | refine G_to_u64 rfl rfl ?_
      | refine G_conv _ rfl rfl (by first | exact IntWalk.i64_in _ (by omega) | rfl) ?_)
    | (refine Is_fieldAddr ?_; refine G_fieldOff rfl rfl ?_)
    | (refine Is_indexAddr ?_; first
      | refine G_indexA rfl rfl (by first | decide | omega) rfl ?_
      | refine G_indexP rfl rfl (by first | assumption | omega) rfl ?_)
    | (refine Is_un ?_; refine G_not rfl rfl ?_)
    | (refine Is_makeFunc ?_; refine G_makeFunc rfl rfl rfl ?_)
    | (refine Is_extract ?_; refine G_extract rfl rfl rfl ?_)
    | (refine Is_guard ?_; first
      | refine G_guard_yes (by rw [hops.eq]; rfl) rfl (by simp) ?_
      | refine G_guard_no (by rw [hops.eq]; rfl) rfl rfl rfl ?_)
    | (refine Is_pick ?_; first
      | refine G_pick_t rfl rfl rfl ?_
      | refine G_pick_f rfl rfl rfl ?_)
    | refine GC_cond_t rfl ?_
    | refine GC_cond_f rfl ?_
    | refine GC_seq ?_
    | refine GC_region (fun ops hops => ?_)
    | (refine G_nil ?_; try clear hops; try clear ops)
    | refine At_then ?_
    | refine GC_skip ?_
    | refine GC_block ?_
    | refine GC_exit ?_
    | refine GC_ret ?_
    | refine At_then_exit ?_
    | refine At_then_ret ?_
    | refine At_block ?_
    | refine At_block_ret ?_
    | refine At_block_hit ?_
    | refine At_block_miss rfl ?_
    | refine At_round_exit ?_
    | refine At_round_ret ?_)
    (refine X_done rfl ?_; first | exact List.Sublist.refl _ | exact List.sublist_append_right _ _ | exact List.Sublist.cons _ (List.Sublist.refl _))
  repeat
    apply DR_x rfl rfl rfl
    (· intro mm
       (repeat (first
    | (refine Is_move ?_; refine G_move rfl rfl ?_)
    | (refine Is_assign ?_; refine G_assign rfl rfl ?_)
    | (refine Is_bin ?_; first
      | refine G_lss_t rfl rfl (by omega) rfl ?_
      | refine G_lss_f rfl rfl (by omega) rfl ?_
      | refine G_lss rfl rfl rfl ?_
      | refine G_add rfl rfl rfl (by first | exact IntWalk.i64_in _ (by omega) | rfl) ?_
      | refine G_eql_t rfl rfl (by first | with_reducible rfl | assumption | decide +kernel | omega) rfl ?_
      | refine G_eql_f rfl rfl (by first | decide +kernel | omega | assumption) rfl ?_
      | refine G_eql rfl rfl rfl ?_
      | refine G_neq_f rfl rfl (by first | with_reducible rfl | assumption | decide +kernel | omega) rfl ?_
      | refine G_neq_t rfl rfl (by first | decide +kernel | omega | assumption) rfl ?_
      | refine G_neq rfl rfl rfl ?_
      | refine G_leq_t rfl rfl (by omega) rfl ?_
      | refine G_leq_f rfl rfl (by omega) rfl ?_
      | refine G_leq rfl rfl rfl ?_
      | refine G_gtr_t rfl rfl (by omega) rfl ?_
      | refine G_gtr_f rfl rfl (by omega) rfl ?_
      | refine G_gtr rfl rfl rfl ?_
      | refine G_geq_t rfl rfl (by omega) rfl ?_
      | refine G_geq_f rfl rfl (by omega) rfl ?_
      | refine G_geq rfl rfl rfl ?_
      | refine G_sub rfl rfl rfl (by first | exact IntWalk.i64_in _ (by omega) | rfl) ?_
      | refine G_mul rfl rfl rfl (by first | exact IntWalk.i64_in _ (by omega) | rfl) ?_
      | refine G_xor64 rfl rfl rfl ?_
      | refine G_mul64 rfl rfl rfl ?_
      | refine G_or64 rfl rfl rfl ?_
      | refine G_and64 rfl rfl rfl ?_
      | refine G_add64 rfl rfl rfl ?_
      | refine G_sub64 rfl rfl rfl ?_
      | refine G_shr64 rfl rfl rfl rfl ?_
      | refine G_shl64 rfl rfl rfl rfl ?_
      | refine G_eqlB rfl rfl rfl ?_
      | refine G_neqB rfl rfl rfl ?_)
    | (refine Is_load ?_; first
      | refine G_load rfl rfl rfl ?_
      | refine G_load_cell rfl (by first | assumption | (apply_assumption; done) | fail) rfl ?_)
    | (refine Is_store ?_; refine G_store rfl rfl rfl rfl rfl ?_)
    | (refine Is_builtin ?_; first
      | refine G_len rfl rfl ?_)
    | (refine Is_nilCheck ?_; refine G_nilCheck rfl rfl ?_)
    | (refine Is_convert ?_; first
      | refine G_u64_int rfl rfl ?_
      | refine G_to_u64 rfl rfl ?_
      | refine G_conv _ rfl rfl (by first | exact IntWalk.i64_in _ (by omega) | rfl) ?_)
    | (refine Is_fieldAddr ?_; refine G_fieldOff rfl rfl ?_)
    | (refine Is_indexAddr ?_; first
      | refine G_indexA rfl rfl (by first | decide | omega) rfl ?_
      | refine G_indexP rfl rfl (by first | assumption | omega) rfl ?_)
    | (refine Is_un ?_; refine G_not rfl rfl ?_)
    | (refine Is_makeFunc ?_; refine G_makeFunc rfl rfl rfl ?_)
    | (refine Is_extract ?_; refine G_extract rfl rfl rfl ?_)
    | (refine Is_guard ?_; first
      | refine G_guard_yes (by rw [hops.eq]; rfl) rfl (by simp) ?_
      | refine G_guard_no (by rw [hops.eq]; rfl) rfl rfl rfl ?_)
    | (refine Is_pick ?_; first
      | refine G_pick_t rfl rfl rfl ?_
      | refine G_pick_f rfl rfl rfl ?_)
    | refine GC_cond_t rfl ?_
    | refine GC_cond_f rfl ?_
    | refine GC_seq ?_
    | refine GC_region (fun ops hops => ?_)
    | (refine G_nil ?_; try clear hops; try clear ops)
    | refine At_then ?_
    | refine GC_skip ?_
    | refine GC_block ?_
    | refine GC_exit ?_
    | refine GC_ret ?_
    | refine At_then_exit ?_
    | refine At_then_ret ?_
    | refine At_block ?_
    | refine At_block_ret ?_
    | refine At_block_hit ?_
    | refine At_block_miss rfl ?_
    | refine At_round_exit ?_
    | refine At_round_ret ?_))
       exact X_done rfl (List.Sublist.refl _))
  refine DR_nil rfl ?_
  rw [decs joins_r]
  repeat (first
    | (refine Is_move ?_; refine G_move rfl rfl ?_)
    | (refine Is_assign ?_; refine G_assign rfl rfl ?_)
    | (refine Is_bin ?_; first
      | refine G_lss_t rfl rfl (by omega) rfl ?_
      | refine G_lss_f rfl rfl (by omega) rfl ?_
      | refine G_lss rfl rfl rfl ?_
      | refine G_add rfl rfl rfl (by first | exact IntWalk.i64_in _ (by omega) | rfl) ?_
      | refine G_eql_t rfl rfl (by first | with_reducible rfl | assumption | decide +kernel | omega) rfl ?_
      | refine G_eql_f rfl rfl (by first | decide +kernel | omega | assumption) rfl ?_
      | refine G_eql rfl rfl rfl ?_
      | refine G_neq_f rfl rfl (by first | with_reducible rfl | assumption | decide +kernel | omega) rfl ?_
      | refine G_neq_t rfl rfl (by first | decide +kernel | omega | assumption) rfl ?_
      | refine G_neq rfl rfl rfl ?_
      | refine G_leq_t rfl rfl (by omega) rfl ?_
      | refine G_leq_f rfl rfl (by omega) rfl ?_
      | refine G_leq rfl rfl rfl ?_
      | refine G_gtr_t rfl rfl (by omega) rfl ?_
      | refine G_gtr_f rfl rfl (by omega) rfl ?_
      | refine G_gtr rfl rfl rfl ?_
      | refine G_geq_t rfl rfl (by omega) rfl ?_
      | refine G_geq_f rfl rfl (by omega) rfl ?_
      | refine G_geq rfl rfl rfl ?_
      | refine G_sub rfl rfl rfl (by first | exact IntWalk.i64_in _ (by omega) | rfl) ?_
      | refine G_mul rfl rfl rfl (by first | exact IntWalk.i64_in _ (by omega) | rfl) ?_
      | refine G_xor64 rfl rfl rfl ?_
      | refine G_mul64 rfl rfl rfl ?_
      | refine G_or64 rfl rfl rfl ?_
      | refine G_and64 rfl rfl rfl ?_
      | refine G_add64 rfl rfl rfl ?_
      | refine G_sub64 rfl rfl rfl ?_
      | refine G_shr64 rfl rfl rfl rfl ?_
      | refine G_shl64 rfl rfl rfl rfl ?_
      | refine G_eqlB rfl rfl rfl ?_
      | refine G_neqB rfl rfl rfl ?_)
    | (refine Is_load ?_; first
      | refine G_load rfl rfl rfl ?_
      | refine G_load_cell rfl (by first | assumption | (apply_assumption; done) | fail) rfl ?_)
    | (refine Is_store ?_; refine G_store rfl rfl rfl rfl rfl ?_)
    | (refine Is_builtin ?_; first
      | refine G_len rfl rfl ?_)
    | (refine Is_nilCheck ?_; refine G_nilCheck rfl rfl ?_)
    | (refine Is_convert ?_; first
      | refine G_u64_int rfl rfl ?_
      | refine G_to_u64 rfl rfl ?_
      | refine G_conv _ rfl rfl (by first | exact IntWalk.i64_in _ (by omega) | rfl) ?_)
    | (refine Is_fieldAddr ?_; refine G_fieldOff rfl rfl ?_)
    | (refine Is_indexAddr ?_; first
      | refine G_indexA rfl rfl (by first | decide | omega) rfl ?_
      | refine G_indexP rfl rfl (by first | assumption | omega) rfl ?_)
    | (refine Is_un ?_; refine G_not rfl rfl ?_)
    | (refine Is_makeFunc ?_; refine G_makeFunc rfl rfl rfl ?_)
    | (refine Is_extract ?_; refine G_extract rfl rfl rfl ?_)
    | (refine Is_guard ?_; first
      | refine G_guard_yes (by rw [hops.eq]; rfl) rfl (by simp) ?_
      | refine G_guard_no (by rw [hops.eq]; rfl) rfl rfl rfl ?_)
    | (refine Is_pick ?_; first
      | refine G_pick_t rfl rfl rfl ?_
      | refine G_pick_f rfl rfl rfl ?_)
    | refine GC_cond_t rfl ?_
    | refine GC_cond_f rfl ?_
    | refine GC_seq ?_
    | refine GC_region (fun ops hops => ?_)
    | (refine G_nil ?_; try clear hops; try clear ops)
    | refine At_then ?_
    | refine GC_skip ?_
    | refine GC_block ?_
    | refine GC_exit ?_
    | refine GC_ret ?_
    | refine At_then_exit ?_
    | refine At_then_ret ?_
    | refine At_block ?_
    | refine At_block_ret ?_
    | refine At_block_hit ?_
    | refine At_block_miss rfl ?_
    | refine At_round_exit ?_
    | refine At_round_ret ?_)
  have hB' := hB
  refine GC_cut [(1, .slice A' bs.length c'), (5, .pointer (some ⟨b, 0, none⟩)), (7, .bool true)] [.box b (.cells #[U z0, U z1, U z2, U z3] 37)] ?_ ?_
  · refine GC_cond_dec rfl (fun hpos => ?_) (fun hneg => ?_)
    · obtain ⟨ad, rfl⟩ : ∃ ad, A = some ad := by
        obtain ⟨A1, n1, c1, e1, _, _, _, h4⟩ := hL.rd
        cases e1
        obtain ⟨ad, e2, _⟩ := h4 (by simp; omega)
        exact ⟨ad, e2⟩
      obtain ⟨i, hi⟩ : ∃ i : Nat, i = (z3 % BitVec.ofNat 64 l.length).toNat := ⟨_, rfl⟩
      have hn64 : (BitVec.ofNat 64 l.length).toNat = l.length := by simp; omega
      have hil : i < l.length := by rw [hi, BitVec.toNat_umod, hn64]; exact Nat.mod_lt _ (by omega)
      repeat (first
    | (refine Is_move ?_; refine G_move rfl rfl ?_)
    | (refine Is_assign ?_; refine G_assign rfl rfl ?_)
    | (refine Is_bin ?_; first
      | refine G_lss_t rfl rfl (by omega) rfl ?_
      | refine G_lss_f rfl rfl (by omega) rfl ?_
      | refine G_lss rfl rfl rfl ?_
      | refine G_add rfl rfl rfl (by first | exact IntWalk.i64_in _ (by omega) | rfl) ?_
      | refine G_eql_t rfl rfl (by first | with_reducible rfl | assumption | decide +kernel | omega) rfl ?_
      | refine G_eql_f rfl rfl (by first | decide +kernel | omega | assumption) rfl ?_
      | refine G_eql rfl rfl rfl ?_
      | refine G_neq_f rfl rfl (by first | with_reducible rfl | assumption | decide +kernel | omega) rfl ?_
      | refine G_neq_t rfl rfl (by first | decide +kernel | omega | assumption) rfl ?_
      | refine G_neq rfl rfl rfl ?_
      | refine G_leq_t rfl rfl (by omega) rfl ?_
      | refine G_leq_f rfl rfl (by omega) rfl ?_
      | refine G_leq rfl rfl rfl ?_
      | refine G_gtr_t rfl rfl (by omega) rfl ?_
      | refine G_gtr_f rfl rfl (by omega) rfl ?_
      | refine G_gtr rfl rfl rfl ?_
      | refine G_geq_t rfl rfl (by omega) rfl ?_
      | refine G_geq_f rfl rfl (by omega) rfl ?_
      | refine G_geq rfl rfl rfl ?_
      | refine G_sub rfl rfl rfl (by first | exact IntWalk.i64_in _ (by omega) | rfl) ?_
      | refine G_mul rfl rfl rfl (by first | exact IntWalk.i64_in _ (by omega) | rfl) ?_
      | refine G_xor64 rfl rfl rfl ?_
      | refine G_mul64 rfl rfl rfl ?_
      | refine G_or64 rfl rfl rfl ?_
      | refine G_and64 rfl rfl rfl ?_
      | refine G_add64 rfl rfl rfl ?_
      | refine G_sub64 rfl rfl rfl ?_
      | refine G_shr64 rfl rfl rfl rfl ?_
      | refine G_shl64 rfl rfl rfl rfl ?_
      | refine G_eqlB rfl rfl rfl ?_
      | refine G_neqB rfl rfl rfl ?_)
    | (refine Is_load ?_; first
      | refine G_load rfl rfl rfl ?_
      | refine G_load_cell rfl (by first | assumption | (apply_assumption; done) | fail) rfl ?_)
    | (refine Is_store ?_; refine G_store rfl rfl rfl rfl rfl ?_)
    | (refine Is_builtin ?_; first
      | refine G_len rfl rfl ?_)
    | (refine Is_nilCheck ?_; refine G_nilCheck rfl rfl ?_)
    | (refine Is_convert ?_; first
      | refine G_u64_int rfl rfl ?_
      | refine G_to_u64 rfl rfl ?_
      | refine G_conv _ rfl rfl (by first | exact IntWalk.i64_in _ (by omega) | rfl) ?_)
    | (refine Is_fieldAddr ?_; refine G_fieldOff rfl rfl ?_)
    | (refine Is_indexAddr ?_; first
      | refine G_indexA rfl rfl (by first | decide | omega) rfl ?_
      | refine G_indexP rfl rfl (by first | assumption | omega) rfl ?_)
    | (refine Is_un ?_; refine G_not rfl rfl ?_)
    | (refine Is_makeFunc ?_; refine G_makeFunc rfl rfl rfl ?_)
    | (refine Is_extract ?_; refine G_extract rfl rfl rfl ?_)
    | (refine Is_guard ?_; first
      | refine G_guard_yes (by rw [hops.eq]; rfl) rfl (by simp) ?_
      | refine G_guard_no (by rw [hops.eq]; rfl) rfl rfl rfl ?_)
    | (refine Is_pick ?_; first
      | refine G_pick_t rfl rfl rfl ?_
      | refine G_pick_f rfl rfl rfl ?_)
    | refine GC_cond_t rfl ?_
    | refine GC_cond_f rfl ?_
    | refine GC_seq ?_
    | refine GC_region (fun ops hops => ?_)
    | (refine G_nil ?_; try clear hops; try clear ops)
    | refine At_then ?_
    | refine GC_skip ?_
    | refine GC_block ?_
    | refine GC_exit ?_
    | refine GC_ret ?_
    | refine At_then_exit ?_
    | refine At_then_ret ?_
    | refine At_block ?_
    | refine At_block_ret ?_
    | refine At_block_hit ?_
    | refine At_block_miss rfl ?_
    | refine At_round_exit ?_
    | refine At_round_ret ?_)
      refine G_rem64 rfl rfl rfl rfl (by omega) rfl ?_
      refine G_conv (i : Int) rfl rfl (by rw [← hi]; exact IntWalk.i64_in _ (by omega)) ?_
      repeat (first
    | (refine Is_move ?_; refine G_move rfl rfl ?_)
    | (refine Is_assign ?_; refine G_assign rfl rfl ?_)
    | (refine Is_bin ?_; first
      | refine G_lss_t rfl rfl (by omega) rfl ?_
      | refine G_lss_f rfl rfl (by omega) rfl ?_
      | refine G_lss rfl rfl rfl ?_
      | refine G_add rfl rfl rfl (by first | exact IntWalk.i64_in _ (by omega) | rfl) ?_
      | refine G_eql_t rfl rfl (by first | with_reducible rfl | assumption | decide +kernel | omega) rfl ?_
      | refine G_eql_f rfl rfl (by first | decide +kernel | omega | assumption) rfl ?_
      | refine G_eql rfl rfl rfl ?_
      | refine G_neq_f rfl rfl (by first | with_reducible rfl | assumption | decide +kernel | omega) rfl ?_
      | refine G_neq_t rfl rfl (by first | decide +kernel | omega | assumption) rfl ?_
      | refine G_neq rfl rfl rfl ?_
      | refine G_leq_t rfl rfl (by omega) rfl ?_
      | refine G_leq_f rfl rfl (by omega) rfl ?_
      | refine G_leq rfl rfl rfl ?_
      | refine G_gtr_t rfl rfl (by omega) rfl ?_
      | refine G_gtr_f rfl rfl (by omega) rfl ?_
      | refine G_gtr rfl rfl rfl ?_
      | refine G_geq_t rfl rfl (by omega) rfl ?_
      | refine G_geq_f rfl rfl (by omega) rfl ?_
      | refine G_geq rfl rfl rfl ?_
      | refine G_sub rfl rfl rfl (by first | exact IntWalk.i64_in _ (by omega) | rfl) ?_
      | refine G_mul rfl rfl rfl (by first | exact IntWalk.i64_in _ (by omega) | rfl) ?_
      | refine G_xor64 rfl rfl rfl ?_
      | refine G_mul64 rfl rfl rfl ?_
      | refine G_or64 rfl rfl rfl ?_
      | refine G_and64 rfl rfl rfl ?_
      | refine G_add64 rfl rfl rfl ?_
      | refine G_sub64 rfl rfl rfl ?_
      | refine G_shr64 rfl rfl rfl rfl ?_
      | refine G_shl64 rfl rfl rfl rfl ?_
      | refine G_eqlB rfl rfl rfl ?_
      | refine G_neqB rfl rfl rfl ?_)
    | (refine Is_load ?_; first
      | refine G_load rfl rfl rfl ?_
      | refine G_load_cell rfl (by first | assumption | (apply_assumption; done) | fail) rfl ?_)
    | (refine Is_store ?_; refine G_store rfl rfl rfl rfl rfl ?_)
    | (refine Is_builtin ?_; first
      | refine G_len rfl rfl ?_)
    | (refine Is_nilCheck ?_; refine G_nilCheck rfl rfl ?_)
    | (refine Is_convert ?_; first
      | refine G_u64_int rfl rfl ?_
      | refine G_to_u64 rfl rfl ?_
      | refine G_conv _ rfl rfl (by first | exact IntWalk.i64_in _ (by omega) | rfl) ?_)
    | (refine Is_fieldAddr ?_; refine G_fieldOff rfl rfl ?_)
    | (refine Is_indexAddr ?_; first
      | refine G_indexA rfl rfl (by first | decide | omega) rfl ?_
      | refine G_indexP rfl rfl (by first | assumption | omega) rfl ?_)
    | (refine Is_un ?_; refine G_not rfl rfl ?_)
    | (refine Is_makeFunc ?_; refine G_makeFunc rfl rfl rfl ?_)
    | (refine Is_extract ?_; refine G_extract rfl rfl rfl ?_)
    | (refine Is_guard ?_; first
      | refine G_guard_yes (by rw [hops.eq]; rfl) rfl (by simp) ?_
      | refine G_guard_no (by rw [hops.eq]; rfl) rfl rfl rfl ?_)
    | (refine Is_pick ?_; first
      | refine G_pick_t rfl rfl rfl ?_
      | refine G_pick_f rfl rfl rfl ?_)
    | refine GC_cond_t rfl ?_
    | refine GC_cond_f rfl ?_
    | refine GC_seq ?_
    | refine GC_region (fun ops hops => ?_)
    | (refine G_nil ?_; try clear hops; try clear ops)
    | refine At_then ?_
    | refine GC_skip ?_
    | refine GC_block ?_
    | refine GC_exit ?_
    | refine GC_ret ?_
    | refine At_then_exit ?_
    | refine At_then_ret ?_
    | refine At_block ?_
    | refine At_block_ret ?_
    | refine At_block_hit ?_
    | refine At_block_miss rfl ?_
    | refine At_round_exit ?_
    | refine At_round_ret ?_)
      (refine G_buildSlice   rfl rfl rfl rfl rfl rfl ?_; intro g1)
      refine G_own (by repeat (first | exact Take.here | apply Take.there)) (sz := 1) (n := 0) rfl (by simp [maxLen]) ?_
      repeat (first
    | (refine Is_move ?_; refine G_move rfl rfl ?_)
    | (refine Is_assign ?_; refine G_assign rfl rfl ?_)
    | (refine Is_bin ?_; first
      | refine G_lss_t rfl rfl (by omega) rfl ?_
      | refine G_lss_f rfl rfl (by omega) rfl ?_
      | refine G_lss rfl rfl rfl ?_
      | refine G_add rfl rfl rfl (by first | exact IntWalk.i64_in _ (by omega) | rfl) ?_
      | refine G_eql_t rfl rfl (by first | with_reducible rfl | assumption | decide +kernel | omega) rfl ?_
      | refine G_eql_f rfl rfl (by first | decide +kernel | omega | assumption) rfl ?_
      | refine G_eql rfl rfl rfl ?_
      | refine G_neq_f rfl rfl (by first | with_reducible rfl | assumption | decide +kernel | omega) rfl ?_
      | refine G_neq_t rfl rfl (by first | decide +kernel | omega | assumption) rfl ?_
      | refine G_neq rfl rfl rfl ?_
      | refine G_leq_t rfl rfl (by omega) rfl ?_
      | refine G_leq_f rfl rfl (by omega) rfl ?_
      | refine G_leq rfl rfl rfl ?_
      | refine G_gtr_t rfl rfl (by omega) rfl ?_
      | refine G_gtr_f rfl rfl (by omega) rfl ?_
      | refine G_gtr rfl rfl rfl ?_
      | refine G_geq_t rfl rfl (by omega) rfl ?_
      | refine G_geq_f rfl rfl (by omega) rfl ?_
      | refine G_geq rfl rfl rfl ?_
      | refine G_sub rfl rfl rfl (by first | exact IntWalk.i64_in _ (by omega) | rfl) ?_
      | refine G_mul rfl rfl rfl (by first | exact IntWalk.i64_in _ (by omega) | rfl) ?_
      | refine G_xor64 rfl rfl rfl ?_
      | refine G_mul64 rfl rfl rfl ?_
      | refine G_or64 rfl rfl rfl ?_
      | refine G_and64 rfl rfl rfl ?_
      | refine G_add64 rfl rfl rfl ?_
      | refine G_sub64 rfl rfl rfl ?_
      | refine G_shr64 rfl rfl rfl rfl ?_
      | refine G_shl64 rfl rfl rfl rfl ?_
      | refine G_eqlB rfl rfl rfl ?_
      | refine G_neqB rfl rfl rfl ?_)
    | (refine Is_load ?_; first
      | refine G_load rfl rfl rfl ?_
      | refine G_load_cell rfl (by first | assumption | (apply_assumption; done) | fail) rfl ?_)
    | (refine Is_store ?_; refine G_store rfl rfl rfl rfl rfl ?_)
    | (refine Is_builtin ?_; first
      | refine G_len rfl rfl ?_)
    | (refine Is_nilCheck ?_; refine G_nilCheck rfl rfl ?_)
    | (refine Is_convert ?_; first
      | refine G_u64_int rfl rfl ?_
      | refine G_to_u64 rfl rfl ?_
      | refine G_conv _ rfl rfl (by first | exact IntWalk.i64_in _ (by omega) | rfl) ?_)
    | (refine Is_fieldAddr ?_; refine G_fieldOff rfl rfl ?_)
    | (refine Is_indexAddr ?_; first
      | refine G_indexA rfl rfl (by first | decide | omega) rfl ?_
      | refine G_indexP rfl rfl (by first | assumption | omega) rfl ?_)
    | (refine Is_un ?_; refine G_not rfl rfl ?_)
    | (refine Is_makeFunc ?_; refine G_makeFunc rfl rfl rfl ?_)
    | (refine Is_extract ?_; refine G_extract rfl rfl rfl ?_)
    | (refine Is_guard ?_; first
      | refine G_guard_yes (by rw [hops.eq]; rfl) rfl (by simp) ?_
      | refine G_guard_no (by rw [hops.eq]; rfl) rfl rfl rfl ?_)
    | (refine Is_pick ?_; first
      | refine G_pick_t rfl rfl rfl ?_
      | refine G_pick_f rfl rfl rfl ?_)
    | refine GC_cond_t rfl ?_
    | refine GC_cond_f rfl ?_
    | refine GC_seq ?_
    | refine GC_region (fun ops hops => ?_)
    | (refine G_nil ?_; try clear hops; try clear ops)
    | refine At_then ?_
    | refine GC_skip ?_
    | refine GC_block ?_
    | refine GC_exit ?_
    | refine GC_ret ?_
    | refine At_then_exit ?_
    | refine At_then_ret ?_
    | refine At_block ?_
    | refine At_block_ret ?_
    | refine At_block_hit ?_
    | refine At_block_miss rfl ?_
    | refine At_round_exit ?_
    | refine At_round_ret ?_)
      refine G_append1 (k := l.length) (ys := l.map I) rfl rfl (by repeat (first | exact Take.here | apply Take.there)) hL.now (by simp) (by simp [Value.oneCell']) (by omega) rfl ?_
      intro v1
      repeat (first
    | (refine Is_move ?_; refine G_move rfl rfl ?_)
    | (refine Is_assign ?_; refine G_assign rfl rfl ?_)
    | (refine Is_bin ?_; first
      | refine G_lss_t rfl rfl (by omega) rfl ?_
      | refine G_lss_f rfl rfl (by omega) rfl ?_
      | refine G_lss rfl rfl rfl ?_
      | refine G_add rfl rfl rfl (by first | exact IntWalk.i64_in _ (by omega) | rfl) ?_
      | refine G_eql_t rfl rfl (by first | with_reducible rfl | assumption | decide +kernel | omega) rfl ?_
      | refine G_eql_f rfl rfl (by first | decide +kernel | omega | assumption) rfl ?_
      | refine G_eql rfl rfl rfl ?_
      | refine G_neq_f rfl rfl (by first | with_reducible rfl | assumption | decide +kernel | omega) rfl ?_
      | refine G_neq_t rfl rfl (by first | decide +kernel | omega | assumption) rfl ?_
      | refine G_neq rfl rfl rfl ?_
      | refine G_leq_t rfl rfl (by omega) rfl ?_
      | refine G_leq_f rfl rfl (by omega) rfl ?_
      | refine G_leq rfl rfl rfl ?_
      | refine G_gtr_t rfl rfl (by omega) rfl ?_
      | refine G_gtr_f rfl rfl (by omega) rfl ?_
      | refine G_gtr rfl rfl rfl ?_
      | refine G_geq_t rfl rfl (by omega) rfl ?_
      | refine G_geq_f rfl rfl (by omega) rfl ?_
      | refine G_geq rfl rfl rfl ?_
      | refine G_sub rfl rfl rfl (by first | exact IntWalk.i64_in _ (by omega) | rfl) ?_
      | refine G_mul rfl rfl rfl (by first | exact IntWalk.i64_in _ (by omega) | rfl) ?_
      | refine G_xor64 rfl rfl rfl ?_
      | refine G_mul64 rfl rfl rfl ?_
      | refine G_or64 rfl rfl rfl ?_
      | refine G_and64 rfl rfl rfl ?_
      | refine G_add64 rfl rfl rfl ?_
      | refine G_sub64 rfl rfl rfl ?_
      | refine G_shr64 rfl rfl rfl rfl ?_
      | refine G_shl64 rfl rfl rfl rfl ?_
      | refine G_eqlB rfl rfl rfl ?_
      | refine G_neqB rfl rfl rfl ?_)
    | (refine Is_load ?_; first
      | refine G_load rfl rfl rfl ?_
      | refine G_load_cell rfl (by first | assumption | (apply_assumption; done) | fail) rfl ?_)
    | (refine Is_store ?_; refine G_store rfl rfl rfl rfl rfl ?_)
    | (refine Is_builtin ?_; first
      | refine G_len rfl rfl ?_)
    | (refine Is_nilCheck ?_; refine G_nilCheck rfl rfl ?_)
    | (refine Is_convert ?_; first
      | refine G_u64_int rfl rfl ?_
      | refine G_to_u64 rfl rfl ?_
      | refine G_conv _ rfl rfl (by first | exact IntWalk.i64_in _ (by omega) | rfl) ?_)
    | (refine Is_fieldAddr ?_; refine G_fieldOff rfl rfl ?_)
    | (refine Is_indexAddr ?_; first
      | refine G_indexA rfl rfl (by first | decide | omega) rfl ?_
      | refine G_indexP rfl rfl (by first | assumption | omega) rfl ?_)
    | (refine Is_un ?_; refine G_not rfl rfl ?_)
    | (refine Is_makeFunc ?_; refine G_makeFunc rfl rfl rfl ?_)
    | (refine Is_extract ?_; refine G_extract rfl rfl rfl ?_)
    | (refine Is_guard ?_; first
      | refine G_guard_yes (by rw [hops.eq]; rfl) rfl (by simp) ?_
      | refine G_guard_no (by rw [hops.eq]; rfl) rfl rfl rfl ?_)
    | (refine Is_pick ?_; first
      | refine G_pick_t rfl rfl rfl ?_
      | refine G_pick_f rfl rfl rfl ?_)
    | refine GC_cond_t rfl ?_
    | refine GC_cond_f rfl ?_
    | refine GC_seq ?_
    | refine GC_region (fun ops hops => ?_)
    | (refine G_nil ?_; try clear hops; try clear ops)
    | refine At_then ?_
    | refine GC_skip ?_
    | refine GC_block ?_
    | refine GC_exit ?_
    | refine GC_ret ?_
    | refine At_then_exit ?_
    | refine At_then_ret ?_
    | refine At_block ?_
    | refine At_block_ret ?_
    | refine At_block_hit ?_
    | refine At_block_miss rfl ?_
    | refine At_round_exit ?_
    | refine At_round_ret ?_)
      refine G_index_own (j := i) rfl rfl (by repeat (first | exact Take.here | apply Take.there)) (by omega) rfl ?_
      intro g cap hv1
      subst hv1
      refine G_store_own rfl rfl rfl (by repeat (first | exact Take.here | apply Take.there)) (by omega) ?_
      obtain ⟨x, hx⟩ : ∃ x, x = z0.toInt := ⟨_, rfl⟩
      have hxb : -9223372036854775808 ≤ x ∧ x ≤ 9223372036854775807 := by
        have h3 := BitVec.toInt_lt (x := z0); have h4 := BitVec.le_toInt (x := z0); rw [hx]; omega
      rw [show ((#[] : Array Value).toList ++ List.map I l).set i (I z0.toInt) = (l.set i x).map I by rw [List.map_set, hx]; rfl, ← hx, Nat.zero_add l.length]
      obtain ⟨l', hl'⟩ : ∃ l', l' = l.set i x := ⟨_, rfl⟩
      have hlen : l'.length = l.length := by rw [hl', List.length_set]
      rw [← hl']
      repeat (first
    | (refine Is_move ?_; refine G_move rfl rfl ?_)
    | (refine Is_assign ?_; refine G_assign rfl rfl ?_)
    | (refine Is_bin ?_; first
      | refine G_lss_t rfl rfl (by omega) rfl ?_
      | refine G_lss_f rfl rfl (by omega) rfl ?_
      | refine G_lss rfl rfl rfl ?_
      | refine G_add rfl rfl rfl (by first | exact IntWalk.i64_in _ (by omega) | rfl) ?_
      | refine G_eql_t rfl rfl (by first | with_reducible rfl | assumption | decide +kernel | omega) rfl ?_
      | refine G_eql_f rfl rfl (by first | decide +kernel | omega | assumption) rfl ?_
      | refine G_eql rfl rfl rfl ?_
      | refine G_neq_f rfl rfl (by first | with_reducible rfl | assumption | decide +kernel | omega) rfl ?_
      | refine G_neq_t rfl rfl (by first | decide +kernel | omega | assumption) rfl ?_
      | refine G_neq rfl rfl rfl ?_
      | refine G_leq_t rfl rfl (by omega) rfl ?_
      | refine G_leq_f rfl rfl (by omega) rfl ?_
      | refine G_leq rfl rfl rfl ?_
      | refine G_gtr_t rfl rfl (by omega) rfl ?_
      | refine G_gtr_f rfl rfl (by omega) rfl ?_
      | refine G_gtr rfl rfl rfl ?_
      | refine G_geq_t rfl rfl (by omega) rfl ?_
      | refine G_geq_f rfl rfl (by omega) rfl ?_
      | refine G_geq rfl rfl rfl ?_
      | refine G_sub rfl rfl rfl (by first | exact IntWalk.i64_in _ (by omega) | rfl) ?_
      | refine G_mul rfl rfl rfl (by first | exact IntWalk.i64_in _ (by omega) | rfl) ?_
      | refine G_xor64 rfl rfl rfl ?_
      | refine G_mul64 rfl rfl rfl ?_
      | refine G_or64 rfl rfl rfl ?_
      | refine G_and64 rfl rfl rfl ?_
      | refine G_add64 rfl rfl rfl ?_
      | refine G_sub64 rfl rfl rfl ?_
      | refine G_shr64 rfl rfl rfl rfl ?_
      | refine G_shl64 rfl rfl rfl rfl ?_
      | refine G_eqlB rfl rfl rfl ?_
      | refine G_neqB rfl rfl rfl ?_)
    | (refine Is_load ?_; first
      | refine G_load rfl rfl rfl ?_
      | refine G_load_cell rfl (by first | assumption | (apply_assumption; done) | fail) rfl ?_)
    | (refine Is_store ?_; refine G_store rfl rfl rfl rfl rfl ?_)
    | (refine Is_builtin ?_; first
      | refine G_len rfl rfl ?_)
    | (refine Is_nilCheck ?_; refine G_nilCheck rfl rfl ?_)
    | (refine Is_convert ?_; first
      | refine G_u64_int rfl rfl ?_
      | refine G_to_u64 rfl rfl ?_
      | refine G_conv _ rfl rfl (by first | exact IntWalk.i64_in _ (by omega) | rfl) ?_)
    | (refine Is_fieldAddr ?_; refine G_fieldOff rfl rfl ?_)
    | (refine Is_indexAddr ?_; first
      | refine G_indexA rfl rfl (by first | decide | omega) rfl ?_
      | refine G_indexP rfl rfl (by first | assumption | omega) rfl ?_)
    | (refine Is_un ?_; refine G_not rfl rfl ?_)
    | (refine Is_makeFunc ?_; refine G_makeFunc rfl rfl rfl ?_)
    | (refine Is_extract ?_; refine G_extract rfl rfl rfl ?_)
    | (refine Is_guard ?_; first
      | refine G_guard_yes (by rw [hops.eq]; rfl) rfl (by simp) ?_
      | refine G_guard_no (by rw [hops.eq]; rfl) rfl rfl rfl ?_)
    | (refine Is_pick ?_; first
      | refine G_pick_t rfl rfl rfl ?_
      | refine G_pick_f rfl rfl rfl ?_)
    | refine GC_cond_t rfl ?_
    | refine GC_cond_f rfl ?_
    | refine GC_seq ?_
    | refine GC_region (fun ops hops => ?_)
    | (refine G_nil ?_; try clear hops; try clear ops)
    | refine At_then ?_
    | refine GC_skip ?_
    | refine GC_block ?_
    | refine GC_exit ?_
    | refine GC_ret ?_
    | refine At_then_exit ?_
    | refine At_then_ret ?_
    | refine At_block ?_
    | refine At_block_ret ?_
    | refine At_block_hit ?_
    | refine At_block_miss rfl ?_
    | refine At_round_exit ?_
    | refine At_round_ret ?_)
      (refine G_buildSlice   rfl rfl rfl rfl rfl rfl ?_; intro g2)
      (refine G_buildSlice   rfl rfl rfl rfl rfl rfl ?_; intro g3)
      refine G_own (b := g2) (by repeat (first | exact Take.here | apply Take.there)) (sz := 1) (n := 0) rfl (by simp [maxLen]) ?_
      refine G_own (b := g3) (by repeat (first | exact Take.here | apply Take.there)) (sz := 1) (n := 0) rfl (by simp [maxLen]) ?_
      repeat (first
    | (refine Is_move ?_; refine G_move rfl rfl ?_)
    | (refine Is_assign ?_; refine G_assign rfl rfl ?_)
    | (refine Is_bin ?_; first
      | refine G_lss_t rfl rfl (by omega) rfl ?_
      | refine G_lss_f rfl rfl (by omega) rfl ?_
      | refine G_lss rfl rfl rfl ?_
      | refine G_add rfl rfl rfl (by first | exact IntWalk.i64_in _ (by omega) | rfl) ?_
      | refine G_eql_t rfl rfl (by first | with_reducible rfl | assumption | decide +kernel | omega) rfl ?_
      | refine G_eql_f rfl rfl (by first | decide +kernel | omega | assumption) rfl ?_
      | refine G_eql rfl rfl rfl ?_
      | refine G_neq_f rfl rfl (by first | with_reducible rfl | assumption | decide +kernel | omega) rfl ?_
      | refine G_neq_t rfl rfl (by first | decide +kernel | omega | assumption) rfl ?_
      | refine G_neq rfl rfl rfl ?_
      | refine G_leq_t rfl rfl (by omega) rfl ?_
      | refine G_leq_f rfl rfl (by omega) rfl ?_
      | refine G_leq rfl rfl rfl ?_
      | refine G_gtr_t rfl rfl (by omega) rfl ?_
      | refine G_gtr_f rfl rfl (by omega) rfl ?_
      | refine G_gtr rfl rfl rfl ?_
      | refine G_geq_t rfl rfl (by omega) rfl ?_
      | refine G_geq_f rfl rfl (by omega) rfl ?_
      | refine G_geq rfl rfl rfl ?_
      | refine G_sub rfl rfl rfl (by first | exact IntWalk.i64_in _ (by omega) | rfl) ?_
      | refine G_mul rfl rfl rfl (by first | exact IntWalk.i64_in _ (by omega) | rfl) ?_
      | refine G_xor64 rfl rfl rfl ?_
      | refine G_mul64 rfl rfl rfl ?_
      | refine G_or64 rfl rfl rfl ?_
      | refine G_and64 rfl rfl rfl ?_
      | refine G_add64 rfl rfl rfl ?_
      | refine G_sub64 rfl rfl rfl ?_
      | refine G_shr64 rfl rfl rfl rfl ?_
      | refine G_shl64 rfl rfl rfl rfl ?_
      | refine G_eqlB rfl rfl rfl ?_
      | refine G_neqB rfl rfl rfl ?_)
    | (refine Is_load ?_; first
      | refine G_load rfl rfl rfl ?_
      | refine G_load_cell rfl (by first | assumption | (apply_assumption; done) | fail) rfl ?_)
    | (refine Is_store ?_; refine G_store rfl rfl rfl rfl rfl ?_)
    | (refine Is_builtin ?_; first
      | refine G_len rfl rfl ?_)
    | (refine Is_nilCheck ?_; refine G_nilCheck rfl rfl ?_)
    | (refine Is_convert ?_; first
      | refine G_u64_int rfl rfl ?_
      | refine G_to_u64 rfl rfl ?_
      | refine G_conv _ rfl rfl (by first | exact IntWalk.i64_in _ (by omega) | rfl) ?_)
    | (refine Is_fieldAddr ?_; refine G_fieldOff rfl rfl ?_)
    | (refine Is_indexAddr ?_; first
      | refine G_indexA rfl rfl (by first | decide | omega) rfl ?_
      | refine G_indexP rfl rfl (by first | assumption | omega) rfl ?_)
    | (refine Is_un ?_; refine G_not rfl rfl ?_)
    | (refine Is_makeFunc ?_; refine G_makeFunc rfl rfl rfl ?_)
    | (refine Is_extract ?_; refine G_extract rfl rfl rfl ?_)
    | (refine Is_guard ?_; first
      | refine G_guard_yes (by rw [hops.eq]; rfl) rfl (by simp) ?_
      | refine G_guard_no (by rw [hops.eq]; rfl) rfl rfl rfl ?_)
    | (refine Is_pick ?_; first
      | refine G_pick_t rfl rfl rfl ?_
      | refine G_pick_f rfl rfl rfl ?_)
    | refine GC_cond_t rfl ?_
    | refine GC_cond_f rfl ?_
    | refine GC_seq ?_
    | refine GC_region (fun ops hops => ?_)
    | (refine G_nil ?_; try clear hops; try clear ops)
    | refine At_then ?_
    | refine GC_skip ?_
    | refine GC_block ?_
    | refine GC_exit ?_
    | refine GC_ret ?_
    | refine At_then_exit ?_
    | refine At_then_ret ?_
    | refine At_block ?_
    | refine At_block_ret ?_
    | refine At_block_hit ?_
    | refine At_block_miss rfl ?_
    | refine At_round_exit ?_
    | refine At_round_ret ?_)
      refine GC_loop' (X := Nat × Value × Value) (fun y => y.1 ≤ l.length)
        (fun y => [(0, .slice (some ad) l.length c), (9, .slice (some ⟨g, 0, none⟩) l.length cap), (8, I i), (1, .slice A' bs.length c'), (5, .pointer (some ⟨b, 0, none⟩)), (7, .bool true), (10, y.2.1), (11, y.2.2), (12, I y.1)])
        (fun y => [.own y.2.2 24 1 y.1 ((bw (l'.take y.1)).map U), .own y.2.1 24 1 y.1 ((bw (l.take y.1)).map U), .own (.slice (some ⟨g, 0, none⟩) l.length cap) 3 1 l.length (l'.map I), .box b (.cells #[U z0, U z1, U z2, U z3] 37)])
        (fun y => l.length - y.1) (0, .slice (some ⟨g2, 0, none⟩) 0 0, .slice (some ⟨g3, 0, none⟩) 0 0) (Nat.zero_le _) ⟨rfl, rfl, rfl, rfl, rfl, rfl, rfl, rfl, rfl, trivial⟩ (fun w h => h) ?_
      intro y hk
      obtain ⟨k, a, a'⟩ := y
      simp only at hk ⊢
      by_cases hlt : k < l.length
      · have hlt' : k < l'.length := by omega
        have hc1 := hL.cell k hlt
        repeat (first
    | (refine Is_move ?_; refine G_move rfl rfl ?_)
    | (refine Is_assign ?_; refine G_assign rfl rfl ?_)
    | (refine Is_bin ?_; first
      | refine G_lss_t rfl rfl (by omega) rfl ?_
      | refine G_lss_f rfl rfl (by omega) rfl ?_
      | refine G_lss rfl rfl rfl ?_
      | refine G_add rfl rfl rfl (by first | exact IntWalk.i64_in _ (by omega) | rfl) ?_
      | refine G_eql_t rfl rfl (by first | with_reducible rfl | assumption | decide +kernel | omega) rfl ?_
      | refine G_eql_f rfl rfl (by first | decide +kernel | omega | assumption) rfl ?_
      | refine G_eql rfl rfl rfl ?_
      | refine G_neq_f rfl rfl (by first | with_reducible rfl | assumption | decide +kernel | omega) rfl ?_
      | refine G_neq_t rfl rfl (by first | decide +kernel | omega | assumption) rfl ?_
      | refine G_neq rfl rfl rfl ?_
      | refine G_leq_t rfl rfl (by omega) rfl ?_
      | refine G_leq_f rfl rfl (by omega) rfl ?_
      | refine G_leq rfl rfl rfl ?_
      | refine G_gtr_t rfl rfl (by omega) rfl ?_
      | refine G_gtr_f rfl rfl (by omega) rfl ?_
      | refine G_gtr rfl rfl rfl ?_
      | refine G_geq_t rfl rfl (by omega) rfl ?_
      | refine G_geq_f rfl rfl (by omega) rfl ?_
      | refine G_geq rfl rfl rfl ?_
      | refine G_sub rfl rfl rfl (by first | exact IntWalk.i64_in _ (by omega) | rfl) ?_
      | refine G_mul rfl rfl rfl (by first | exact IntWalk.i64_in _ (by omega) | rfl) ?_
      | refine G_xor64 rfl rfl rfl ?_
      | refine G_mul64 rfl rfl rfl ?_
      | refine G_or64 rfl rfl rfl ?_
      | refine G_and64 rfl rfl rfl ?_
      | refine G_add64 rfl rfl rfl ?_
      | refine G_sub64 rfl rfl rfl ?_
      | refine G_shr64 rfl rfl rfl rfl ?_
      | refine G_shl64 rfl rfl rfl rfl ?_
      | refine G_eqlB rfl rfl rfl ?_
      | refine G_neqB rfl rfl rfl ?_)
    | (refine Is_load ?_; first
      | refine G_load rfl rfl rfl ?_
      | refine G_load_cell rfl (by first | assumption | (apply_assumption; done) | fail) rfl ?_)
    | (refine Is_store ?_; refine G_store rfl rfl rfl rfl rfl ?_)
    | (refine Is_builtin ?_; first
      | refine G_len rfl rfl ?_)
    | (refine Is_nilCheck ?_; refine G_nilCheck rfl rfl ?_)
    | (refine Is_convert ?_; first
      | refine G_u64_int rfl rfl ?_
      | refine G_to_u64 rfl rfl ?_
      | refine G_conv _ rfl rfl (by first | exact IntWalk.i64_in _ (by omega) | rfl) ?_)
    | (refine Is_fieldAddr ?_; refine G_fieldOff rfl rfl ?_)
    | (refine Is_indexAddr ?_; first
      | refine G_indexA rfl rfl (by first | decide | omega) rfl ?_
      | refine G_indexP rfl rfl (by first | assumption | omega) rfl ?_)
    | (refine Is_un ?_; refine G_not rfl rfl ?_)
    | (refine Is_makeFunc ?_; refine G_makeFunc rfl rfl rfl ?_)
    | (refine Is_extract ?_; refine G_extract rfl rfl rfl ?_)
    | (refine Is_guard ?_; first
      | refine G_guard_yes (by rw [hops.eq]; rfl) rfl (by simp) ?_
      | refine G_guard_no (by rw [hops.eq]; rfl) rfl rfl rfl ?_)
    | (refine Is_pick ?_; first
      | refine G_pick_t rfl rfl rfl ?_
      | refine G_pick_f rfl rfl rfl ?_)
    | refine GC_cond_t rfl ?_
    | refine GC_cond_f rfl ?_
    | refine GC_seq ?_
    | refine GC_region (fun ops hops => ?_)
    | (refine G_nil ?_; try clear hops; try clear ops)
    | refine At_then ?_
    | refine GC_skip ?_
    | refine GC_block ?_
    | refine GC_exit ?_
    | refine GC_ret ?_
    | refine At_then_exit ?_
    | refine At_then_ret ?_
    | refine At_block ?_
    | refine At_block_ret ?_
    | refine At_block_hit ?_
    | refine At_block_miss rfl ?_
    | refine At_round_exit ?_
    | refine At_round_ret ?_)
        (refine G_buildSlice   rfl rfl rfl rfl rfl rfl ?_; intro g4)
        refine G_append_lit rfl rfl (by repeat (first | exact Take.here | apply Take.there)) rfl (by omega) rfl ?_
        intro a2
        rw [bw_snoc l k hlt]
        repeat (first
    | (refine Is_move ?_; refine G_move rfl rfl ?_)
    | (refine Is_assign ?_; refine G_assign rfl rfl ?_)
    | (refine Is_bin ?_; first
      | refine G_lss_t rfl rfl (by omega) rfl ?_
      | refine G_lss_f rfl rfl (by omega) rfl ?_
      | refine G_lss rfl rfl rfl ?_
      | refine G_add rfl rfl rfl (by first | exact IntWalk.i64_in _ (by omega) | rfl) ?_
      | refine G_eql_t rfl rfl (by first | with_reducible rfl | assumption | decide +kernel | omega) rfl ?_
      | refine G_eql_f rfl rfl (by first | decide +kernel | omega | assumption) rfl ?_
      | refine G_eql rfl rfl rfl ?_
      | refine G_neq_f rfl rfl (by first | with_reducible rfl | assumption | decide +kernel | omega) rfl ?_
      | refine G_neq_t rfl rfl (by first | decide +kernel | omega | assumption) rfl ?_
      | refine G_neq rfl rfl rfl ?_
      | refine G_leq_t rfl rfl (by omega) rfl ?_
      | refine G_leq_f rfl rfl (by omega) rfl ?_
      | refine G_leq rfl rfl rfl ?_
      | refine G_gtr_t rfl rfl (by omega) rfl ?_
      | refine G_gtr_f rfl rfl (by omega) rfl ?_
      | refine G_gtr rfl rfl rfl ?_
      | refine G_geq_t rfl rfl (by omega) rfl ?_
      | refine G_geq_f rfl rfl (by omega) rfl ?_
      | refine G_geq rfl rfl rfl ?_
      | refine G_sub rfl rfl rfl (by first | exact IntWalk.i64_in _ (by omega) | rfl) ?_
      | refine G_mul rfl rfl rfl (by first | exact IntWalk.i64_in _ (by omega) | rfl) ?_
      | refine G_xor64 rfl rfl rfl ?_
      | refine G_mul64 rfl rfl rfl ?_
      | refine G_or64 rfl rfl rfl ?_
      | refine G_and64 rfl rfl rfl ?_
      | refine G_add64 rfl rfl rfl ?_
      | refine G_sub64 rfl rfl rfl ?_
      | refine G_shr64 rfl rfl rfl rfl ?_
      | refine G_shl64 rfl rfl rfl rfl ?_
      | refine G_eqlB rfl rfl rfl ?_
      | refine G_neqB rfl rfl rfl ?_)
    | (refine Is_load ?_; first
      | refine G_load rfl rfl rfl ?_
      | refine G_load_cell rfl (by first | assumption | (apply_assumption; done) | fail) rfl ?_)
    | (refine Is_store ?_; refine G_store rfl rfl rfl rfl rfl ?_)
    | (refine Is_builtin ?_; first
      | refine G_len rfl rfl ?_)
    | (refine Is_nilCheck ?_; refine G_nilCheck rfl rfl ?_)
    | (refine Is_convert ?_; first
      | refine G_u64_int rfl rfl ?_
      | refine G_to_u64 rfl rfl ?_
      | refine G_conv _ rfl rfl (by first | exact IntWalk.i64_in _ (by omega) | rfl) ?_)
    | (refine Is_fieldAddr ?_; refine G_fieldOff rfl rfl ?_)
    | (refine Is_indexAddr ?_; first
      | refine G_indexA rfl rfl (by first | decide | omega) rfl ?_
      | refine G_indexP rfl rfl (by first | assumption | omega) rfl ?_)
    | (refine Is_un ?_; refine G_not rfl rfl ?_)
    | (refine Is_makeFunc ?_; refine G_makeFunc rfl rfl rfl ?_)
    | (refine Is_extract ?_; refine G_extract rfl rfl rfl ?_)
    | (refine Is_guard ?_; first
      | refine G_guard_yes (by rw [hops.eq]; rfl) rfl (by simp) ?_
      | refine G_guard_no (by rw [hops.eq]; rfl) rfl rfl rfl ?_)
    | (refine Is_pick ?_; first
      | refine G_pick_t rfl rfl rfl ?_
      | refine G_pick_f rfl rfl rfl ?_)
    | refine GC_cond_t rfl ?_
    | refine GC_cond_f rfl ?_
    | refine GC_seq ?_
    | refine GC_region (fun ops hops => ?_)
    | (refine G_nil ?_; try clear hops; try clear ops)
    | refine At_then ?_
    | refine GC_skip ?_
    | refine GC_block ?_
    | refine GC_exit ?_
    | refine GC_ret ?_
    | refine At_then_exit ?_
    | refine At_then_ret ?_
    | refine At_block ?_
    | refine At_block_ret ?_
    | refine At_block_hit ?_
    | refine At_block_miss rfl ?_
    | refine At_round_exit ?_
    | refine At_round_ret ?_)
        refine G_load_cell rfl ((RdS.own (v := .slice (some ⟨g, 0, none⟩) l.length cap) (e := 3) (n := l.length) (xs := l'.map I) (by repeat (first | exact List.Mem.head _ | apply List.Mem.tail))).cell k hlt') rfl ?_
        repeat (first
    | (refine Is_move ?_; refine G_move rfl rfl ?_)
    | (refine Is_assign ?_; refine G_assign rfl rfl ?_)
    | (refine Is_bin ?_; first
      | refine G_lss_t rfl rfl (by omega) rfl ?_
      | refine G_lss_f rfl rfl (by omega) rfl ?_
      | refine G_lss rfl rfl rfl ?_
      | refine G_add rfl rfl rfl (by first | exact IntWalk.i64_in _ (by omega) | rfl) ?_
      | refine G_eql_t rfl rfl (by first | with_reducible rfl | assumption | decide +kernel | omega) rfl ?_
      | refine G_eql_f rfl rfl (by first | decide +kernel | omega | assumption) rfl ?_
      | refine G_eql rfl rfl rfl ?_
      | refine G_neq_f rfl rfl (by first | with_reducible rfl | assumption | decide +kernel | omega) rfl ?_
      | refine G_neq_t rfl rfl (by first | decide +kernel | omega | assumption) rfl ?_
      | refine G_neq rfl rfl rfl ?_
      | refine G_leq_t rfl rfl (by omega) rfl ?_
      | refine G_leq_f rfl rfl (by omega) rfl ?_
      | refine G_leq rfl rfl rfl ?_
      | refine G_gtr_t rfl rfl (by omega) rfl ?_
      | refine G_gtr_f rfl rfl (by omega) rfl ?_
      | refine G_gtr rfl rfl rfl ?_
      | refine G_geq_t rfl rfl (by omega) rfl ?_
      | refine G_geq_f rfl rfl (by omega) rfl ?_
      | refine G_geq rfl rfl rfl ?_
      | refine G_sub rfl rfl rfl (by first | exact IntWalk.i64_in _ (by omega) | rfl) ?_
      | refine G_mul rfl rfl rfl (by first | exact IntWalk.i64_in _ (by omega) | rfl) ?_
      | refine G_xor64 rfl rfl rfl ?_
      | refine G_mul64 rfl rfl rfl ?_
      | refine G_or64 rfl rfl rfl ?_
      | refine G_and64 rfl rfl rfl ?_
      | refine G_add64 rfl rfl rfl ?_
      | refine G_sub64 rfl rfl rfl ?_
      | refine G_shr64 rfl rfl rfl rfl ?_
      | refine G_shl64 rfl rfl rfl rfl ?_
      | refine G_eqlB rfl rfl rfl ?_
      | refine G_neqB rfl rfl rfl ?_)
    | (refine Is_load ?_; first
      | refine G_load rfl rfl rfl ?_
      | refine G_load_cell rfl (by first | assumption | (apply_assumption; done) | fail) rfl ?_)
    | (refine Is_store ?_; refine G_store rfl rfl rfl rfl rfl ?_)
    | (refine Is_builtin ?_; first
      | refine G_len rfl rfl ?_)
    | (refine Is_nilCheck ?_; refine G_nilCheck rfl rfl ?_)
    | (refine Is_convert ?_; first
      | refine G_u64_int rfl rfl ?_
      | refine G_to_u64 rfl rfl ?_
      | refine G_conv _ rfl rfl (by first | exact IntWalk.i64_in _ (by omega) | rfl) ?_)
    | (refine Is_fieldAddr ?_; refine G_fieldOff rfl rfl ?_)
    | (refine Is_indexAddr ?_; first
      | refine G_indexA rfl rfl (by first | decide | omega) rfl ?_
      | refine G_indexP rfl rfl (by first | assumption | omega) rfl ?_)
    | (refine Is_un ?_; refine G_not rfl rfl ?_)
    | (refine Is_makeFunc ?_; refine G_makeFunc rfl rfl rfl ?_)
    | (refine Is_extract ?_; refine G_extract rfl rfl rfl ?_)
    | (refine Is_guard ?_; first
      | refine G_guard_yes (by rw [hops.eq]; rfl) rfl (by simp) ?_
      | refine G_guard_no (by rw [hops.eq]; rfl) rfl rfl rfl ?_)
    | (refine Is_pick ?_; first
      | refine G_pick_t rfl rfl rfl ?_
      | refine G_pick_f rfl rfl rfl ?_)
    | refine GC_cond_t rfl ?_
    | refine GC_cond_f rfl ?_
    | refine GC_seq ?_
    | refine GC_region (fun ops hops => ?_)
    | (refine G_nil ?_; try clear hops; try clear ops)
    | refine At_then ?_
    | refine GC_skip ?_
    | refine GC_block ?_
    | refine GC_exit ?_
    | refine GC_ret ?_
    | refine At_then_exit ?_
    | refine At_then_ret ?_
    | refine At_block ?_
    | refine At_block_ret ?_
    | refine At_block_hit ?_
    | refine At_block_miss rfl ?_
    | refine At_round_exit ?_
    | refine At_round_ret ?_)
        (refine G_buildSlice   rfl rfl rfl rfl rfl rfl ?_; intro g5)
        refine G_append_lit rfl rfl (by repeat (first | exact Take.here | apply Take.there)) rfl (by omega) rfl ?_
        intro a3
        rw [bw_snoc l' k hlt']
        repeat (first
    | (refine Is_move ?_; refine G_move rfl rfl ?_)
    | (refine Is_assign ?_; refine G_assign rfl rfl ?_)
    | (refine Is_bin ?_; first
      | refine G_lss_t rfl rfl (by omega) rfl ?_
      | refine G_lss_f rfl rfl (by omega) rfl ?_
      | refine G_lss rfl rfl rfl ?_
      | refine G_add rfl rfl rfl (by first | exact IntWalk.i64_in _ (by omega) | rfl) ?_
      | refine G_eql_t rfl rfl (by first | with_reducible rfl | assumption | decide +kernel | omega) rfl ?_
      | refine G_eql_f rfl rfl (by first | decide +kernel | omega | assumption) rfl ?_
      | refine G_eql rfl rfl rfl ?_
      | refine G_neq_f rfl rfl (by first | with_reducible rfl | assumption | decide +kernel | omega) rfl ?_
      | refine G_neq_t rfl rfl (by first | decide +kernel | omega | assumption) rfl ?_
      | refine G_neq rfl rfl rfl ?_
      | refine G_leq_t rfl rfl (by omega) rfl ?_
      | refine G_leq_f rfl rfl (by omega) rfl ?_
      | refine G_leq rfl rfl rfl ?_
      | refine G_gtr_t rfl rfl (by omega) rfl ?_
      | refine G_gtr_f rfl rfl (by omega) rfl ?_
      | refine G_gtr rfl rfl rfl ?_
      | refine G_geq_t rfl rfl (by omega) rfl ?_
      | refine G_geq_f rfl rfl (by omega) rfl ?_
      | refine G_geq rfl rfl rfl ?_
      | refine G_sub rfl rfl rfl (by first | exact IntWalk.i64_in _ (by omega) | rfl) ?_
      | refine G_mul rfl rfl rfl (by first | exact IntWalk.i64_in _ (by omega) | rfl) ?_
      | refine G_xor64 rfl rfl rfl ?_
      | refine G_mul64 rfl rfl rfl ?_
      | refine G_or64 rfl rfl rfl ?_
      | refine G_and64 rfl rfl rfl ?_
      | refine G_add64 rfl rfl rfl ?_
      | refine G_sub64 rfl rfl rfl ?_
      | refine G_shr64 rfl rfl rfl rfl ?_
      | refine G_shl64 rfl rfl rfl rfl ?_
      | refine G_eqlB rfl rfl rfl ?_
      | refine G_neqB rfl rfl rfl ?_)
    | (refine Is_load ?_; first
      | refine G_load rfl rfl rfl ?_
      | refine G_load_cell rfl (by first | assumption | (apply_assumption; done) | fail) rfl ?_)
    | (refine Is_store ?_; refine G_store rfl rfl rfl rfl rfl ?_)
    | (refine Is_builtin ?_; first
      | refine G_len rfl rfl ?_)
    | (refine Is_nilCheck ?_; refine G_nilCheck rfl rfl ?_)
    | (refine Is_convert ?_; first
      | refine G_u64_int rfl rfl ?_
      | refine G_to_u64 rfl rfl ?_
      | refine G_conv _ rfl rfl (by first | exact IntWalk.i64_in _ (by omega) | rfl) ?_)
    | (refine Is_fieldAddr ?_; refine G_fieldOff rfl rfl ?_)
    | (refine Is_indexAddr ?_; first
      | refine G_indexA rfl rfl (by first | decide | omega) rfl ?_
      | refine G_indexP rfl rfl (by first | assumption | omega) rfl ?_)
    | (refine Is_un ?_; refine G_not rfl rfl ?_)
    | (refine Is_makeFunc ?_; refine G_makeFunc rfl rfl rfl ?_)
    | (refine Is_extract ?_; refine G_extract rfl rfl rfl ?_)
    | (refine Is_guard ?_; first
      | refine G_guard_yes (by rw [hops.eq]; rfl) rfl (by simp) ?_
      | refine G_guard_no (by rw [hops.eq]; rfl) rfl rfl rfl ?_)
    | (refine Is_pick ?_; first
      | refine G_pick_t rfl rfl rfl ?_
      | refine G_pick_f rfl rfl rfl ?_)
    | refine GC_cond_t rfl ?_
    | refine GC_cond_f rfl ?_
    | refine GC_seq ?_
    | refine GC_region (fun ops hops => ?_)
    | (refine G_nil ?_; try clear hops; try clear ops)
    | refine At_then ?_
    | refine GC_skip ?_
    | refine GC_block ?_
    | refine GC_exit ?_
    | refine GC_ret ?_
    | refine At_then_exit ?_
    | refine At_then_ret ?_
    | refine At_block ?_
    | refine At_block_ret ?_
    | refine At_block_hit ?_
    | refine At_block_miss rfl ?_
    | refine At_round_exit ?_
    | refine At_round_ret ?_)
        exact At_round (k + 1, a2, a3) (by simp only; omega) (by simp only; omega) ⟨rfl, rfl, rfl, rfl, rfl, rfl, rfl, rfl, rfl, trivial⟩ (fun w1 hw1 => hw1.drop (by repeat (first | exact List.Sublist.slnil | apply List.Sublist.cons_cons | apply List.Sublist.cons)))
      · obtain rfl : k = l.length := by omega
        have hc1 := hL.cell i hil
        have hil' : i < l'.length := by omega
        have h9 : ∀ m, As.own (.slice (some ⟨g, 0, none⟩) l.length cap) 3 1 l.length (l'.map I) ∈ m → Cell w [] m ((⟨g, 0, none⟩ : Addr).add i) (I l'[i]) := fun m hm => (RdS.own hm).cell i hil'
        have hxi : l'[i] = x := by subst hl'; simp
        rw [List.take_length, show List.take l.length l' = l' by rw [← hlen, List.take_length]]
        repeat (first
    | (refine Is_move ?_; refine G_move rfl rfl ?_)
    | (refine Is_assign ?_; refine G_assign rfl rfl ?_)
    | (refine Is_bin ?_; first
      | refine G_lss_t rfl rfl (by omega) rfl ?_
      | refine G_lss_f rfl rfl (by omega) rfl ?_
      | refine G_lss rfl rfl rfl ?_
      | refine G_add rfl rfl rfl (by first | exact IntWalk.i64_in _ (by omega) | rfl) ?_
      | refine G_eql_t rfl rfl (by first | with_reducible rfl | assumption | decide +kernel | omega) rfl ?_
      | refine G_eql_f rfl rfl (by first | decide +kernel | omega | assumption) rfl ?_
      | refine G_eql rfl rfl rfl ?_
      | refine G_neq_f rfl rfl (by first | with_reducible rfl | assumption | decide +kernel | omega) rfl ?_
      | refine G_neq_t rfl rfl (by first | decide +kernel | omega | assumption) rfl ?_
      | refine G_neq rfl rfl rfl ?_
      | refine G_leq_t rfl rfl (by omega) rfl ?_
      | refine G_leq_f rfl rfl (by omega) rfl ?_
      | refine G_leq rfl rfl rfl ?_
      | refine G_gtr_t rfl rfl (by omega) rfl ?_
      | refine G_gtr_f rfl rfl (by omega) rfl ?_
      | refine G_gtr rfl rfl rfl ?_
      | refine G_geq_t rfl rfl (by omega) rfl ?_
      | refine G_geq_f rfl rfl (by omega) rfl ?_
      | refine G_geq rfl rfl rfl ?_
      | refine G_sub rfl rfl rfl (by first | exact IntWalk.i64_in _ (by omega) | rfl) ?_
      | refine G_mul rfl rfl rfl (by first | exact IntWalk.i64_in _ (by omega) | rfl) ?_
      | refine G_xor64 rfl rfl rfl ?_
      | refine G_mul64 rfl rfl rfl ?_
      | refine G_or64 rfl rfl rfl ?_
      | refine G_and64 rfl rfl rfl ?_
      | refine G_add64 rfl rfl rfl ?_
      | refine G_sub64 rfl rfl rfl ?_
      | refine G_shr64 rfl rfl rfl rfl ?_
      | refine G_shl64 rfl rfl rfl rfl ?_
      | refine G_eqlB rfl rfl rfl ?_
      | refine G_neqB rfl rfl rfl ?_)
    | (refine Is_load ?_; first
      | refine G_load rfl rfl rfl ?_
      | refine G_load_cell rfl (by first | assumption | (apply_assumption; done) | fail) rfl ?_)
    | (refine Is_store ?_; refine G_store rfl rfl rfl rfl rfl ?_)
    | (refine Is_builtin ?_; first
      | refine G_len rfl rfl ?_)
    | (refine Is_nilCheck ?_; refine G_nilCheck rfl rfl ?_)
    | (refine Is_convert ?_; first
      | refine G_u64_int rfl rfl ?_
      | refine G_to_u64 rfl rfl ?_
      | refine G_conv _ rfl rfl (by first | exact IntWalk.i64_in _ (by omega) | rfl) ?_)
    | (refine Is_fieldAddr ?_; refine G_fieldOff rfl rfl ?_)
    | (refine Is_indexAddr ?_; first
      | refine G_indexA rfl rfl (by first | decide | omega) rfl ?_
      | refine G_indexP rfl rfl (by first | assumption | omega) rfl ?_)
    | (refine Is_un ?_; refine G_not rfl rfl ?_)
    | (refine Is_makeFunc ?_; refine G_makeFunc rfl rfl rfl ?_)
    | (refine Is_extract ?_; refine G_extract rfl rfl rfl ?_)
    | (refine Is_guard ?_; first
      | refine G_guard_yes (by rw [hops.eq]; rfl) rfl (by simp) ?_
      | refine G_guard_no (by rw [hops.eq]; rfl) rfl rfl rfl ?_)
    | (refine Is_pick ?_; first
      | refine G_pick_t rfl rfl rfl ?_
      | refine G_pick_f rfl rfl rfl ?_)
    | refine GC_cond_t rfl ?_
    | refine GC_cond_f rfl ?_
    | refine GC_seq ?_
    | refine GC_region (fun ops hops => ?_)
    | (refine G_nil ?_; try clear hops; try clear ops)
    | refine At_then ?_
    | refine GC_skip ?_
    | refine GC_block ?_
    | refine GC_exit ?_
    | refine GC_ret ?_
    | refine At_then_exit ?_
    | refine At_then_ret ?_
    | refine At_block ?_
    | refine At_block_ret ?_
    | refine At_block_hit ?_
    | refine At_block_miss rfl ?_
    | refine At_round_exit ?_
    | refine At_round_ret ?_)
        refine GC_draw [0, 1, 2, 3, 4, 5, 6, 7, 8, 9, 10, 11, 12, 13, 14, 15, 16, 17, 18, 19, 20, 21, 22, 23, 24, 25, 26, 27, 28, 29, 30, 31] [] 32 rfl (by kernel_rfl) (fun ops hops => ?_)
        repeat
          apply DR_x rfl rfl rfl
          (· intro mm
             (repeat (first
    | (refine Is_move ?_; refine G_move rfl rfl ?_)
    | (refine Is_assign ?_; refine G_assign rfl rfl ?_)
    | (refine Is_bin ?_; first
      | refine G_lss_t rfl rfl (by omega) rfl ?_
      | refine G_lss_f rfl rfl (by omega) rfl ?_
      | refine G_lss rfl rfl rfl ?_
      | refine G_add rfl rfl rfl (by first | exact IntWalk.i64_in _ (by omega) | rfl) ?_
      | refine G_eql_t rfl rfl (by first | with_reducible rfl | assumption | decide +kernel | omega) rfl ?_
      | refine G_eql_f rfl rfl (by first | decide +kernel | omega | assumption) rfl ?_
      | refine G_eql rfl rfl rfl ?_
      | refine G_neq_f rfl rfl (by first | with_reducible rfl | assumption | decide +kernel | omega) rfl ?_
      | refine G_neq_t rfl rfl (by first | decide +kernel | omega | assumption) rfl ?_
      | refine G_neq rfl rfl rfl ?_
      | refine G_leq_t rfl rfl (by omega) rfl ?_
      | refine G_leq_f rfl rfl (by omega) rfl ?_
      | refine G_leq rfl rfl rfl ?_
      | refine G_gtr_t rfl rfl (by omega) rfl ?_
      | refine G_gtr_f rfl rfl (by omega) rfl ?_
      | refine G_gtr rfl rfl rfl ?_
      | refine G_geq_t rfl rfl (by omega) rfl ?_
      | refine G_geq_f rfl rfl (by omega) rfl ?_
      | refine G_geq rfl rfl rfl ?_
      | refine G_sub rfl rfl rfl (by first | exact IntWalk.i64_in _ (by omega) | rfl) ?_
      | refine G_mul rfl rfl rfl (by first | exact IntWalk.i64_in _ (by omega) | rfl) ?_
      | refine G_xor64 rfl rfl rfl ?_
      | refine G_mul64 rfl rfl rfl ?_
      | refine G_or64 rfl rfl rfl ?_
      | refine G_and64 rfl rfl rfl ?_
      | refine G_add64 rfl rfl rfl ?_
      | refine G_sub64 rfl rfl rfl ?_
      | refine G_shr64 rfl rfl rfl rfl ?_
      | refine G_shl64 rfl rfl rfl rfl ?_
      | refine G_eqlB rfl rfl rfl ?_
      | refine G_neqB rfl rfl rfl ?_)
    | (refine Is_load ?_; first
      | refine G_load rfl rfl rfl ?_
      | refine G_load_cell rfl (by first | assumption | (apply_assumption; done) | fail) rfl ?_)
    | (refine Is_store ?_; refine G_store rfl rfl rfl rfl rfl ?_)
    | (refine Is_builtin ?_; first
      | refine G_len rfl rfl ?_)
    | (refine Is_nilCheck ?_; refine G_nilCheck rfl rfl ?_)
    | (refine Is_convert ?_; first
      | refine G_u64_int rfl rfl ?_
      | refine G_to_u64 rfl rfl ?_
      | refine G_conv _ rfl rfl (by first | exact IntWalk.i64_in _ (by omega) | rfl) ?_)
    | (refine Is_fieldAddr ?_; refine G_fieldOff rfl rfl ?_)
    | (refine Is_indexAddr ?_; first
      | refine G_indexA rfl rfl (by first | decide | omega) rfl ?_
      | refine G_indexP rfl rfl (by first | assumption | omega) rfl ?_)
    | (refine Is_un ?_; refine G_not rfl rfl ?_)
    | (refine Is_makeFunc ?_; refine G_makeFunc rfl rfl rfl ?_)
    | (refine Is_extract ?_; refine G_extract rfl rfl rfl ?_)
    | (refine Is_guard ?_; first
      | refine G_guard_yes (by rw [hops.eq]; rfl) rfl (by simp) ?_
      | refine G_guard_no (by rw [hops.eq]; rfl) rfl rfl rfl ?_)
    | (refine Is_pick ?_; first
      | refine G_pick_t rfl rfl rfl ?_
      | refine G_pick_f rfl rfl rfl ?_)
    | refine GC_cond_t rfl ?_
    | refine GC_cond_f rfl ?_
    | refine GC_seq ?_
    | refine GC_region (fun ops hops => ?_)
    | (refine G_nil ?_; try clear hops; try clear ops)
    | refine At_then ?_
    | refine GC_skip ?_
    | refine GC_block ?_
    | refine GC_exit ?_
    | refine GC_ret ?_
    | refine At_then_exit ?_
    | refine At_then_ret ?_
    | refine At_block ?_
    | refine At_block_ret ?_
    | refine At_block_hit ?_
    | refine At_block_miss rfl ?_
    | refine At_round_exit ?_
    | refine At_round_ret ?_))
             exact X_done rfl (List.Sublist.refl _))
        apply DR_x rfl rfl rfl
        · intro mm
          repeat (first
    | (refine Is_move ?_; refine G_move rfl rfl ?_)
    | (refine Is_assign ?_; refine G_assign rfl rfl ?_)
    | (refine Is_bin ?_; first
      | refine G_lss_t rfl rfl (by omega) rfl ?_
      | refine G_lss_f rfl rfl (by omega) rfl ?_
      | refine G_lss rfl rfl rfl ?_
      | refine G_add rfl rfl rfl (by first | exact IntWalk.i64_in _ (by omega) | rfl) ?_
      | refine G_eql_t rfl rfl (by first | with_reducible rfl | assumption | decide +kernel | omega) rfl ?_
      | refine G_eql_f rfl rfl (by first | decide +kernel | omega | assumption) rfl ?_
      | refine G_eql rfl rfl rfl ?_
      | refine G_neq_f rfl rfl (by first | with_reducible rfl | assumption | decide +kernel | omega) rfl ?_
      | refine G_neq_t rfl rfl (by first | decide +kernel | omega | assumption) rfl ?_
      | refine G_neq rfl rfl rfl ?_
      | refine G_leq_t rfl rfl (by omega) rfl ?_
      | refine G_leq_f rfl rfl (by omega) rfl ?_
      | refine G_leq rfl rfl rfl ?_
      | refine G_gtr_t rfl rfl (by omega) rfl ?_
      | refine G_gtr_f rfl rfl (by omega) rfl ?_
      | refine G_gtr rfl rfl rfl ?_
      | refine G_geq_t rfl rfl (by omega) rfl ?_
      | refine G_geq_f rfl rfl (by omega) rfl ?_
      | refine G_geq rfl rfl rfl ?_
      | refine G_sub rfl rfl rfl (by first | exact IntWalk.i64_in _ (by omega) | rfl) ?_
      | refine G_mul rfl rfl rfl (by first | exact IntWalk.i64_in _ (by omega) | rfl) ?_
      | refine G_xor64 rfl rfl rfl ?_
      | refine G_mul64 rfl rfl rfl ?_
      | refine G_or64 rfl rfl rfl ?_
      | refine G_and64 rfl rfl rfl ?_
      | refine G_add64 rfl rfl rfl ?_
      | refine G_sub64 rfl rfl rfl ?_
      | refine G_shr64 rfl rfl rfl rfl ?_
      | refine G_shl64 rfl rfl rfl rfl ?_
      | refine G_eqlB rfl rfl rfl ?_
      | refine G_neqB rfl rfl rfl ?_)
    | (refine Is_load ?_; first
      | refine G_load rfl rfl rfl ?_
      | refine G_load_cell rfl (by first | assumption | (apply_assumption; done) | fail) rfl ?_)
    | (refine Is_store ?_; refine G_store rfl rfl rfl rfl rfl ?_)
    | (refine Is_builtin ?_; first
      | refine G_len rfl rfl ?_)
    | (refine Is_nilCheck ?_; refine G_nilCheck rfl rfl ?_)
    | (refine Is_convert ?_; first
      | refine G_u64_int rfl rfl ?_
      | refine G_to_u64 rfl rfl ?_
      | refine G_conv _ rfl rfl (by first | exact IntWalk.i64_in _ (by omega) | rfl) ?_)
    | (refine Is_fieldAddr ?_; refine G_fieldOff rfl rfl ?_)
    | (refine Is_indexAddr ?_; first
      | refine G_indexA rfl rfl (by first | decide | omega) rfl ?_
      | refine G_indexP rfl rfl (by first | assumption | omega) rfl ?_)
    | (refine Is_un ?_; refine G_not rfl rfl ?_)
    | (refine Is_makeFunc ?_; refine G_makeFunc rfl rfl rfl ?_)
    | (refine Is_extract ?_; refine G_extract rfl rfl rfl ?_)
    | (refine Is_guard ?_; first
      | refine G_guard_yes (by rw [hops.eq]; rfl) rfl (by simp) ?_
      | refine G_guard_no (by rw [hops.eq]; rfl) rfl rfl rfl ?_)
    | (refine Is_pick ?_; first
      | refine G_pick_t rfl rfl rfl ?_
      | refine G_pick_f rfl rfl rfl ?_)
    | refine GC_cond_t rfl ?_
    | refine GC_cond_f rfl ?_
    | refine GC_seq ?_
    | refine GC_region (fun ops hops => ?_)
    | (refine G_nil ?_; try clear hops; try clear ops)
    | refine At_then ?_
    | refine GC_skip ?_
    | refine GC_block ?_
    | refine GC_exit ?_
    | refine GC_ret ?_
    | refine At_then_exit ?_
    | refine At_then_ret ?_
    | refine At_block ?_
    | refine At_block_ret ?_
    | refine At_block_hit ?_
    | refine At_block_miss rfl ?_
    | refine At_round_exit ?_
    | refine At_round_ret ?_)
          refine G_call rfl (fun w1 hw1 => dig_Words _ l w1 (hL.now w1 hw1)) rfl ?_
          repeat (first
    | (refine Is_move ?_; refine G_move rfl rfl ?_)
    | (refine Is_assign ?_; refine G_assign rfl rfl ?_)
    | (refine Is_bin ?_; first
      | refine G_lss_t rfl rfl (by omega) rfl ?_
      | refine G_lss_f rfl rfl (by omega) rfl ?_
      | refine G_lss rfl rfl rfl ?_
      | refine G_add rfl rfl rfl (by first | exact IntWalk.i64_in _ (by omega) | rfl) ?_
      | refine G_eql_t rfl rfl (by first | with_reducible rfl | assumption | decide +kernel | omega) rfl ?_
      | refine G_eql_f rfl rfl (by first | decide +kernel | omega | assumption) rfl ?_
      | refine G_eql rfl rfl rfl ?_
      | refine G_neq_f rfl rfl (by first | with_reducible rfl | assumption | decide +kernel | omega) rfl ?_
      | refine G_neq_t rfl rfl (by first | decide +kernel | omega | assumption) rfl ?_
      | refine G_neq rfl rfl rfl ?_
      | refine G_leq_t rfl rfl (by omega) rfl ?_
      | refine G_leq_f rfl rfl (by omega) rfl ?_
      | refine G_leq rfl rfl rfl ?_
      | refine G_gtr_t rfl rfl (by omega) rfl ?_
      | refine G_gtr_f rfl rfl (by omega) rfl ?_
      | refine G_gtr rfl rfl rfl ?_
      | refine G_geq_t rfl rfl (by omega) rfl ?_
      | refine G_geq_f rfl rfl (by omega) rfl ?_
      | refine G_geq rfl rfl rfl ?_
      | refine G_sub rfl rfl rfl (by first | exact IntWalk.i64_in _ (by omega) | rfl) ?_
      | refine G_mul rfl rfl rfl (by first | exact IntWalk.i64_in _ (by omega) | rfl) ?_
      | refine G_xor64 rfl rfl rfl ?_
      | refine G_mul64 rfl rfl rfl ?_
      | refine G_or64 rfl rfl rfl ?_
      | refine G_and64 rfl rfl rfl ?_
      | refine G_add64 rfl rfl rfl ?_
      | refine G_sub64 rfl rfl rfl ?_
      | refine G_shr64 rfl rfl rfl rfl ?_
      | refine G_shl64 rfl rfl rfl rfl ?_
      | refine G_eqlB rfl rfl rfl ?_
      | refine G_neqB rfl rfl rfl ?_)
    | (refine Is_load ?_; first
      | refine G_load rfl rfl rfl ?_
      | refine G_load_cell rfl (by first | assumption | (apply_assumption; done) | fail) rfl ?_)
    | (refine Is_store ?_; refine G_store rfl rfl rfl rfl rfl ?_)
    | (refine Is_builtin ?_; first
      | refine G_len rfl rfl ?_)
    | (refine Is_nilCheck ?_; refine G_nilCheck rfl rfl ?_)
    | (refine Is_convert ?_; first
      | refine G_u64_int rfl rfl ?_
      | refine G_to_u64 rfl rfl ?_
      | refine G_conv _ rfl rfl (by first | exact IntWalk.i64_in _ (by omega) | rfl) ?_)
    | (refine Is_fieldAddr ?_; refine G_fieldOff rfl rfl ?_)
    | (refine Is_indexAddr ?_; first
      | refine G_indexA rfl rfl (by first | decide | omega) rfl ?_
      | refine G_indexP rfl rfl (by first | assumption | omega) rfl ?_)
    | (refine Is_un ?_; refine G_not rfl rfl ?_)
    | (refine Is_makeFunc ?_; refine G_makeFunc rfl rfl rfl ?_)
    | (refine Is_extract ?_; refine G_extract rfl rfl rfl ?_)
    | (refine Is_guard ?_; first
      | refine G_guard_yes (by rw [hops.eq]; rfl) rfl (by simp) ?_
      | refine G_guard_no (by rw [hops.eq]; rfl) rfl rfl rfl ?_)
    | (refine Is_pick ?_; first
      | refine G_pick_t rfl rfl rfl ?_
      | refine G_pick_f rfl rfl rfl ?_)
    | refine GC_cond_t rfl ?_
    | refine GC_cond_f rfl ?_
    | refine GC_seq ?_
    | refine GC_region (fun ops hops => ?_)
    | (refine G_nil ?_; try clear hops; try clear ops)
    | refine At_then ?_
    | refine GC_skip ?_
    | refine GC_block ?_
    | refine GC_exit ?_
    | refine GC_ret ?_
    | refine At_then_exit ?_
    | refine At_then_ret ?_
    | refine At_block ?_
    | refine At_block_ret ?_
    | refine At_block_hit ?_
    | refine At_block_miss rfl ?_
    | refine At_round_exit ?_
    | refine At_round_ret ?_)
          (refine X_done rfl ?_; first | exact List.Sublist.refl _ | exact List.sublist_append_right _ _ | exact List.Sublist.cons _ (List.Sublist.refl _))
        repeat
          apply DR_x rfl rfl rfl
          (· intro mm
             (repeat (first
    | (refine Is_move ?_; refine G_move rfl rfl ?_)
    | (refine Is_assign ?_; refine G_assign rfl rfl ?_)
    | (refine Is_bin ?_; first
      | refine G_lss_t rfl rfl (by omega) rfl ?_
      | refine G_lss_f rfl rfl (by omega) rfl ?_
      | refine G_lss rfl rfl rfl ?_
      | refine G_add rfl rfl rfl (by first | exact IntWalk.i64_in _ (by omega) | rfl) ?_
      | refine G_eql_t rfl rfl (by first | with_reducible rfl | assumption | decide +kernel | omega) rfl ?_
      | refine G_eql_f rfl rfl (by first | decide +kernel | omega | assumption) rfl ?_
      | refine G_eql rfl rfl rfl ?_
      | refine G_neq_f rfl rfl (by first | with_reducible rfl | assumption | decide +kernel | omega) rfl ?_
      | refine G_neq_t rfl rfl (by first | decide +kernel | omega | assumption) rfl ?_
      | refine G_neq rfl rfl rfl ?_
      | refine G_leq_t rfl rfl (by omega) rfl ?_
      | refine G_leq_f rfl rfl (by omega) rfl ?_
      | refine G_leq rfl rfl rfl ?_
      | refine G_gtr_t rfl rfl (by omega) rfl ?_
      | refine G_gtr_f rfl rfl (by omega) rfl ?_
      | refine G_gtr rfl rfl rfl ?_
      | refine G_geq_t rfl rfl (by omega) rfl ?_
      | refine G_geq_f rfl rfl (by omega) rfl ?_
      | refine G_geq rfl rfl rfl ?_
      | refine G_sub rfl rfl rfl (by first | exact IntWalk.i64_in _ (by omega) | rfl) ?_
      | refine G_mul rfl rfl rfl (by first | exact IntWalk.i64_in _ (by omega) | rfl) ?_
      | refine G_xor64 rfl rfl rfl ?_
      | refine G_mul64 rfl rfl rfl ?_
      | refine G_or64 rfl rfl rfl ?_
      | refine G_and64 rfl rfl rfl ?_
      | refine G_add64 rfl rfl rfl ?_
      | refine G_sub64 rfl rfl rfl ?_
      | refine G_shr64 rfl rfl rfl rfl ?_
      | refine G_shl64 rfl rfl rfl rfl ?_
      | refine G_eqlB rfl rfl rfl ?_
      | refine G_neqB rfl rfl rfl ?_)
    | (refine Is_load ?_; first
      | refine G_load rfl rfl rfl ?_
      | refine G_load_cell rfl (by first | assumption | (apply_assumption; done) | fail) rfl ?_)
    | (refine Is_store ?_; refine G_store rfl rfl rfl rfl rfl ?_)
    | (refine Is_builtin ?_; first
      | refine G_len rfl rfl ?_)
    | (refine Is_nilCheck ?_; refine G_nilCheck rfl rfl ?_)
    | (refine Is_convert ?_; first
      | refine G_u64_int rfl rfl ?_
      | refine G_to_u64 rfl rfl ?_
      | refine G_conv _ rfl rfl (by first | exact IntWalk.i64_in _ (by omega) | rfl) ?_)
    | (refine Is_fieldAddr ?_; refine G_fieldOff rfl rfl ?_)
    | (refine Is_indexAddr ?_; first
      | refine G_indexA rfl rfl (by first | decide | omega) rfl ?_
      | refine G_indexP rfl rfl (by first | assumption | omega) rfl ?_)
    | (refine Is_un ?_; refine G_not rfl rfl ?_)
    | (refine Is_makeFunc ?_; refine G_makeFunc rfl rfl rfl ?_)
    | (refine Is_extract ?_; refine G_extract rfl rfl rfl ?_)
    | (refine Is_guard ?_; first
      | refine G_guard_yes (by rw [hops.eq]; rfl) rfl (by simp) ?_
      | refine G_guard_no (by rw [hops.eq]; rfl) rfl rfl rfl ?_)
    | (refine Is_pick ?_; first
      | refine G_pick_t rfl rfl rfl ?_
      | refine G_pick_f rfl rfl rfl ?_)
    | refine GC_cond_t rfl ?_
    | refine GC_cond_f rfl ?_
    | refine GC_seq ?_
    | refine GC_region (fun ops hops => ?_)
    | (refine G_nil ?_; try clear hops; try clear ops)
    | refine At_then ?_
    | refine GC_skip ?_
    | refine GC_block ?_
    | refine GC_exit ?_
    | refine GC_ret ?_
    | refine At_then_exit ?_
    | refine At_then_ret ?_
    | refine At_block ?_
    | refine At_block_ret ?_
    | refine At_block_hit ?_
    | refine At_block_miss rfl ?_
    | refine At_round_exit ?_
    | refine At_round_ret ?_))
             exact X_done rfl (List.Sublist.refl _))
        apply DR_x rfl rfl rfl
        · intro mm
          repeat (first
    | (refine Is_move ?_; refine G_move rfl rfl ?_)
    | (refine Is_assign ?_; refine G_assign rfl rfl ?_)
    | (refine Is_bin ?_; first
      | refine G_lss_t rfl rfl (by omega) rfl ?_
      | refine G_lss_f rfl rfl (by omega) rfl ?_
      | refine G_lss rfl rfl rfl ?_
      | refine G_add rfl rfl rfl (by first | exact IntWalk.i64_in _ (by omega) | rfl) ?_
      | refine G_eql_t rfl rfl (by first | with_reducible rfl | assumption | decide +kernel | omega) rfl ?_
      | refine G_eql_f rfl rfl (by first | decide +kernel | omega | assumption) rfl ?_
      | refine G_eql rfl rfl rfl ?_
      | refine G_neq_f rfl rfl (by first | with_reducible rfl | assumption | decide +kernel | omega) rfl ?_
      | refine G_neq_t rfl rfl (by first | decide +kernel | omega | assumption) rfl ?_
      | refine G_neq rfl rfl rfl ?_
      | refine G_leq_t rfl rfl (by omega) rfl ?_
      | refine G_leq_f rfl rfl (by omega) rfl ?_
      | refine G_leq rfl rfl rfl ?_
      | refine G_gtr_t rfl rfl (by omega) rfl ?_
      | refine G_gtr_f rfl rfl (by omega) rfl ?_
      | refine G_gtr rfl rfl rfl ?_
      | refine G_geq_t rfl rfl (by omega) rfl ?_
      | refine G_geq_f rfl rfl (by omega) rfl ?_
      | refine G_geq rfl rfl rfl ?_
      | refine G_sub rfl rfl rfl (by first | exact IntWalk.i64_in _ (by omega) | rfl) ?_
      | refine G_mul rfl rfl rfl (by first | exact IntWalk.i64_in _ (by omega) | rfl) ?_
      | refine G_xor64 rfl rfl rfl ?_
      | refine G_mul64 rfl rfl rfl ?_
      | refine G_or64 rfl rfl rfl ?_
      | refine G_and64 rfl rfl rfl ?_
      | refine G_add64 rfl rfl rfl ?_
      | refine G_sub64 rfl rfl rfl ?_
      | refine G_shr64 rfl rfl rfl rfl ?_
      | refine G_shl64 rfl rfl rfl rfl ?_
      | refine G_eqlB rfl rfl rfl ?_
      | refine G_neqB rfl rfl rfl ?_)
    | (refine Is_load ?_; first
      | refine G_load rfl rfl rfl ?_
      | refine G_load_cell rfl (by first | assumption | (apply_assumption; done) | fail) rfl ?_)
    | (refine Is_store ?_; refine G_store rfl rfl rfl rfl rfl ?_)
    | (refine Is_builtin ?_; first
      | refine G_len rfl rfl ?_)
    | (refine Is_nilCheck ?_; refine G_nilCheck rfl rfl ?_)
    | (refine Is_convert ?_; first
      | refine G_u64_int rfl rfl ?_
      | refine G_to_u64 rfl rfl ?_
      | refine G_conv _ rfl rfl (by first | exact IntWalk.i64_in _ (by omega) | rfl) ?_)
    | (refine Is_fieldAddr ?_; refine G_fieldOff rfl rfl ?_)
    | (refine Is_indexAddr ?_; first
      | refine G_indexA rfl rfl (by first | decide | omega) rfl ?_
      | refine G_indexP rfl rfl (by first | assumption | omega) rfl ?_)
    | (refine Is_un ?_; refine G_not rfl rfl ?_)
    | (refine Is_makeFunc ?_; refine G_makeFunc rfl rfl rfl ?_)
    | (refine Is_extract ?_; refine G_extract rfl rfl rfl ?_)
    | (refine Is_guard ?_; first
      | refine G_guard_yes (by rw [hops.eq]; rfl) rfl (by simp) ?_
      | refine G_guard_no (by rw [hops.eq]; rfl) rfl rfl rfl ?_)
    | (refine Is_pick ?_; first
      | refine G_pick_t rfl rfl rfl ?_
      | refine G_pick_f rfl rfl rfl ?_)
    | refine GC_cond_t rfl ?_
    | refine GC_cond_f rfl ?_
    | refine GC_seq ?_
    | refine GC_region (fun ops hops => ?_)
    | (refine G_nil ?_; try clear hops; try clear ops)
    | refine At_then ?_
    | refine GC_skip ?_
    | refine GC_block ?_
    | refine GC_exit ?_
    | refine GC_ret ?_
    | refine At_then_exit ?_
    | refine At_then_ret ?_
    | refine At_block ?_
    | refine At_block_ret ?_
    | refine At_block_hit ?_
    | refine At_block_miss rfl ?_
    | refine At_round_exit ?_
    | refine At_round_ret ?_)
          refine G_call rfl (fun w1 hw1 => dig_Words _ l' w1 (RdS.own (e := 3) (n := l.length) (by simp) w1 hw1)) rfl ?_
          repeat (first
    | (refine Is_move ?_; refine G_move rfl rfl ?_)
    | (refine Is_assign ?_; refine G_assign rfl rfl ?_)
    | (refine Is_bin ?_; first
      | refine G_lss_t rfl rfl (by omega) rfl ?_
      | refine G_lss_f rfl rfl (by omega) rfl ?_
      | refine G_lss rfl rfl rfl ?_
      | refine G_add rfl rfl rfl (by first | exact IntWalk.i64_in _ (by omega) | rfl) ?_
      | refine G_eql_t rfl rfl (by first | with_reducible rfl | assumption | decide +kernel | omega) rfl ?_
      | refine G_eql_f rfl rfl (by first | decide +kernel | omega | assumption) rfl ?_
      | refine G_eql rfl rfl rfl ?_
      | refine G_neq_f rfl rfl (by first | with_reducible rfl | assumption | decide +kernel | omega) rfl ?_
      | refine G_neq_t rfl rfl (by first | decide +kernel | omega | assumption) rfl ?_
      | refine G_neq rfl rfl rfl ?_
      | refine G_leq_t rfl rfl (by omega) rfl ?_
      | refine G_leq_f rfl rfl (by omega) rfl ?_
      | refine G_leq rfl rfl rfl ?_
      | refine G_gtr_t rfl rfl (by omega) rfl ?_
      | refine G_gtr_f rfl rfl (by omega) rfl ?_
      | refine G_gtr rfl rfl rfl ?_
      | refine G_geq_t rfl rfl (by omega) rfl ?_
      | refine G_geq_f rfl rfl (by omega) rfl ?_
      | refine G_geq rfl rfl rfl ?_
      | refine G_sub rfl rfl rfl (by first | exact IntWalk.i64_in _ (by omega) | rfl) ?_
      | refine G_mul rfl rfl rfl (by first | exact IntWalk.i64_in _ (by omega) | rfl) ?_
      | refine G_xor64 rfl rfl rfl ?_
      | refine G_mul64 rfl rfl rfl ?_
      | refine G_or64 rfl rfl rfl ?_
      | refine G_and64 rfl rfl rfl ?_
      | refine G_add64 rfl rfl rfl ?_
      | refine G_sub64 rfl rfl rfl ?_
      | refine G_shr64 rfl rfl rfl rfl ?_
      | refine G_shl64 rfl rfl rfl rfl ?_
      | refine G_eqlB rfl rfl rfl ?_
      | refine G_neqB rfl rfl rfl ?_)
    | (refine Is_load ?_; first
      | refine G_load rfl rfl rfl ?_
      | refine G_load_cell rfl (by first | assumption | (apply_assumption; done) | fail) rfl ?_)
    | (refine Is_store ?_; refine G_store rfl rfl rfl rfl rfl ?_)
    | (refine Is_builtin ?_; first
      | refine G_len rfl rfl ?_)
    | (refine Is_nilCheck ?_; refine G_nilCheck rfl rfl ?_)
    | (refine Is_convert ?_; first
      | refine G_u64_int rfl rfl ?_
      | refine G_to_u64 rfl rfl ?_
      | refine G_conv _ rfl rfl (by first | exact IntWalk.i64_in _ (by omega) | rfl) ?_)
    | (refine Is_fieldAddr ?_; refine G_fieldOff rfl rfl ?_)
    | (refine Is_indexAddr ?_; first
      | refine G_indexA rfl rfl (by first | decide | omega) rfl ?_
      | refine G_indexP rfl rfl (by first | assumption | omega) rfl ?_)
    | (refine Is_un ?_; refine G_not rfl rfl ?_)
    | (refine Is_makeFunc ?_; refine G_makeFunc rfl rfl rfl ?_)
    | (refine Is_extract ?_; refine G_extract rfl rfl rfl ?_)
    | (refine Is_guard ?_; first
      | refine G_guard_yes (by rw [hops.eq]; rfl) rfl (by simp) ?_
      | refine G_guard_no (by rw [hops.eq]; rfl) rfl rfl rfl ?_)
    | (refine Is_pick ?_; first
      | refine G_pick_t rfl rfl rfl ?_
      | refine G_pick_f rfl rfl rfl ?_)
    | refine GC_cond_t rfl ?_
    | refine GC_cond_f rfl ?_
    | refine GC_seq ?_
    | refine GC_region (fun ops hops => ?_)
    | (refine G_nil ?_; try clear hops; try clear ops)
    | refine At_then ?_
    | refine GC_skip ?_
    | refine GC_block ?_
    | refine GC_exit ?_
    | refine GC_ret ?_
    | refine At_then_exit ?_
    | refine At_then_ret ?_
    | refine At_block ?_
    | refine At_block_ret ?_
    | refine At_block_hit ?_
    | refine At_block_miss rfl ?_
    | refine At_round_exit ?_
    | refine At_round_ret ?_)
          (refine X_done rfl ?_; first | exact List.Sublist.refl _ | exact List.sublist_append_right _ _ | exact List.Sublist.cons _ (List.Sublist.refl _))
        repeat
          apply DR_x rfl rfl rfl
          (· intro mm
             (repeat (first
    | (refine Is_move ?_; refine G_move rfl rfl ?_)
    | (refine Is_assign ?_; refine G_assign rfl rfl ?_)
    | (refine Is_bin ?_; first
      | refine G_lss_t rfl rfl (by omega) rfl ?_
      | refine G_lss_f rfl rfl (by omega) rfl ?_
      | refine G_lss rfl rfl rfl ?_
      | refine G_add rfl rfl rfl (by first | exact IntWalk.i64_in _ (by omega) | rfl) ?_
      | refine G_eql_t rfl rfl (by first | with_reducible rfl | assumption | decide +kernel | omega) rfl ?_
      | refine G_eql_f rfl rfl (by first | decide +kernel | omega | assumption) rfl ?_
      | refine G_eql rfl rfl rfl ?_
      | refine G_neq_f rfl rfl (by first | with_reducible rfl | assumption | decide +kernel | omega) rfl ?_
      | refine G_neq_t rfl rfl (by first | decide +kernel | omega | assumption) rfl ?_
      | refine G_neq rfl rfl rfl ?_
      | refine G_leq_t rfl rfl (by omega) rfl ?_
      | refine G_leq_f rfl rfl (by omega) rfl ?_
      | refine G_leq rfl rfl rfl ?_
      | refine G_gtr_t rfl rfl (by omega) rfl ?_
      | refine G_gtr_f rfl rfl (by omega) rfl ?_
      | refine G_gtr rfl rfl rfl ?_
      | refine G_geq_t rfl rfl (by omega) rfl ?_
      | refine G_geq_f rfl rfl (by omega) rfl ?_
      | refine G_geq rfl rfl rfl ?_
      | refine G_sub rfl rfl rfl (by first | exact IntWalk.i64_in _ (by omega) | rfl) ?_
      | refine G_mul rfl rfl rfl (by first | exact IntWalk.i64_in _ (by omega) | rfl) ?_
      | refine G_xor64 rfl rfl rfl ?_
      | refine G_mul64 rfl rfl rfl ?_
      | refine G_or64 rfl rfl rfl ?_
      | refine G_and64 rfl rfl rfl ?_
      | refine G_add64 rfl rfl rfl ?_
      | refine G_sub64 rfl rfl rfl ?_
      | refine G_shr64 rfl rfl rfl rfl ?_
      | refine G_shl64 rfl rfl rfl rfl ?_
      | refine G_eqlB rfl rfl rfl ?_
      | refine G_neqB rfl rfl rfl ?_)
    | (refine Is_load ?_; first
      | refine G_load rfl rfl rfl ?_
      | refine G_load_cell rfl (by first | assumption | (apply_assumption; done) | fail) rfl ?_)
    | (refine Is_store ?_; refine G_store rfl rfl rfl rfl rfl ?_)
    | (refine Is_builtin ?_; first
      | refine G_len rfl rfl ?_)
    | (refine Is_nilCheck ?_; refine G_nilCheck rfl rfl ?_)
    | (refine Is_convert ?_; first
      | refine G_u64_int rfl rfl ?_
      | refine G_to_u64 rfl rfl ?_
      | refine G_conv _ rfl rfl (by first | exact IntWalk.i64_in _ (by omega) | rfl) ?_)
    | (refine Is_fieldAddr ?_; refine G_fieldOff rfl rfl ?_)
    | (refine Is_indexAddr ?_; first
      | refine G_indexA rfl rfl (by first | decide | omega) rfl ?_
      | refine G_indexP rfl rfl (by first | assumption | omega) rfl ?_)
    | (refine Is_un ?_; refine G_not rfl rfl ?_)
    | (refine Is_makeFunc ?_; refine G_makeFunc rfl rfl rfl ?_)
    | (refine Is_extract ?_; refine G_extract rfl rfl rfl ?_)
    | (refine Is_guard ?_; first
      | refine G_guard_yes (by rw [hops.eq]; rfl) rfl (by simp) ?_
      | refine G_guard_no (by rw [hops.eq]; rfl) rfl rfl rfl ?_)
    | (refine Is_pick ?_; first
      | refine G_pick_t rfl rfl rfl ?_
      | refine G_pick_f rfl rfl rfl ?_)
    | refine GC_cond_t rfl ?_
    | refine GC_cond_f rfl ?_
    | refine GC_seq ?_
    | refine GC_region (fun ops hops => ?_)
    | (refine G_nil ?_; try clear hops; try clear ops)
    | refine At_then ?_
    | refine GC_skip ?_
    | refine GC_block ?_
    | refine GC_exit ?_
    | refine GC_ret ?_
    | refine At_then_exit ?_
    | refine At_then_ret ?_
    | refine At_block ?_
    | refine At_block_ret ?_
    | refine At_block_hit ?_
    | refine At_block_miss rfl ?_
    | refine At_round_exit ?_
    | refine At_round_ret ?_))
             exact X_done rfl (List.Sublist.refl _))
        apply DR_x rfl rfl rfl
        · intro mm
          repeat (first
    | (refine Is_move ?_; refine G_move rfl rfl ?_)
    | (refine Is_assign ?_; refine G_assign rfl rfl ?_)
    | (refine Is_bin ?_; first
      | refine G_lss_t rfl rfl (by omega) rfl ?_
      | refine G_lss_f rfl rfl (by omega) rfl ?_
      | refine G_lss rfl rfl rfl ?_
      | refine G_add rfl rfl rfl (by first | exact IntWalk.i64_in _ (by omega) | rfl) ?_
      | refine G_eql_t rfl rfl (by first | with_reducible rfl | assumption | decide +kernel | omega) rfl ?_
      | refine G_eql_f rfl rfl (by first | decide +kernel | omega | assumption) rfl ?_
      | refine G_eql rfl rfl rfl ?_
      | refine G_neq_f rfl rfl (by first | with_reducible rfl | assumption | decide +kernel | omega) rfl ?_
      | refine G_neq_t rfl rfl (by first | decide +kernel | omega | assumption) rfl ?_
      | refine G_neq rfl rfl rfl ?_
      | refine G_leq_t rfl rfl (by omega) rfl ?_
      | refine G_leq_f rfl rfl (by omega) rfl ?_
      | refine G_leq rfl rfl rfl ?_
      | refine G_gtr_t rfl rfl (by omega) rfl ?_
      | refine G_gtr_f rfl rfl (by omega) rfl ?_
      | refine G_gtr rfl rfl rfl ?_
      | refine G_geq_t rfl rfl (by omega) rfl ?_
      | refine G_geq_f rfl rfl (by omega) rfl ?_
      | refine G_geq rfl rfl rfl ?_
      | refine G_sub rfl rfl rfl (by first | exact IntWalk.i64_in _ (by omega) | rfl) ?_
      | refine G_mul rfl rfl rfl (by first | exact IntWalk.i64_in _ (by omega) | rfl) ?_
      | refine G_xor64 rfl rfl rfl ?_
      | refine G_mul64 rfl rfl rfl ?_
      | refine G_or64 rfl rfl rfl ?_
      | refine G_and64 rfl rfl rfl ?_
      | refine G_add64 rfl rfl rfl ?_
      | refine G_sub64 rfl rfl rfl ?_
      | refine G_shr64 rfl rfl rfl rfl ?_
      | refine G_shl64 rfl rfl rfl rfl ?_
      | refine G_eqlB rfl rfl rfl ?_
      | refine G_neqB rfl rfl rfl ?_)
    | (refine Is_load ?_; first
      | refine G_load rfl rfl rfl ?_
      | refine G_load_cell rfl (by first | assumption | (apply_assumption; done) | fail) rfl ?_)
    | (refine Is_store ?_; refine G_store rfl rfl rfl rfl rfl ?_)
    | (refine Is_builtin ?_; first
      | refine G_len rfl rfl ?_)
    | (refine Is_nilCheck ?_; refine G_nilCheck rfl rfl ?_)
    | (refine Is_convert ?_; first
      | refine G_u64_int rfl rfl ?_
      | refine G_to_u64 rfl rfl ?_
      | refine G_conv _ rfl rfl (by first | exact IntWalk.i64_in _ (by omega) | rfl) ?_)
    | (refine Is_fieldAddr ?_; refine G_fieldOff rfl rfl ?_)
    | (refine Is_indexAddr ?_; first
      | refine G_indexA rfl rfl (by first | decide | omega) rfl ?_
      | refine G_indexP rfl rfl (by first | assumption | omega) rfl ?_)
    | (refine Is_un ?_; refine G_not rfl rfl ?_)
    | (refine Is_makeFunc ?_; refine G_makeFunc rfl rfl rfl ?_)
    | (refine Is_extract ?_; refine G_extract rfl rfl rfl ?_)
    | (refine Is_guard ?_; first
      | refine G_guard_yes (by rw [hops.eq]; rfl) rfl (by simp) ?_
      | refine G_guard_no (by rw [hops.eq]; rfl) rfl rfl rfl ?_)
    | (refine Is_pick ?_; first
      | refine G_pick_t rfl rfl rfl ?_
      | refine G_pick_f rfl rfl rfl ?_)
    | refine GC_cond_t rfl ?_
    | refine GC_cond_f rfl ?_
    | refine GC_seq ?_
    | refine GC_region (fun ops hops => ?_)
    | (refine G_nil ?_; try clear hops; try clear ops)
    | refine At_then ?_
    | refine GC_skip ?_
    | refine GC_block ?_
    | refine GC_exit ?_
    | refine GC_ret ?_
    | refine At_then_exit ?_
    | refine At_then_ret ?_
    | refine At_block ?_
    | refine At_block_ret ?_
    | refine At_block_hit ?_
    | refine At_block_miss rfl ?_
    | refine At_round_exit ?_
    | refine At_round_ret ?_)
          refine G_load_cell rfl (h9 ([_, _, _, _] ++ mm) (by simp)) rfl ?_
          repeat (first
    | (refine Is_move ?_; refine G_move rfl rfl ?_)
    | (refine Is_assign ?_; refine G_assign rfl rfl ?_)
    | (refine Is_bin ?_; first
      | refine G_lss_t rfl rfl (by omega) rfl ?_
      | refine G_lss_f rfl rfl (by omega) rfl ?_
      | refine G_lss rfl rfl rfl ?_
      | refine G_add rfl rfl rfl (by first | exact IntWalk.i64_in _ (by omega) | rfl) ?_
      | refine G_eql_t rfl rfl (by first | with_reducible rfl | assumption | decide +kernel | omega) rfl ?_
      | refine G_eql_f rfl rfl (by first | decide +kernel | omega | assumption) rfl ?_
      | refine G_eql rfl rfl rfl ?_
      | refine G_neq_f rfl rfl (by first | with_reducible rfl | assumption | decide +kernel | omega) rfl ?_
      | refine G_neq_t rfl rfl (by first | decide +kernel | omega | assumption) rfl ?_
      | refine G_neq rfl rfl rfl ?_
      | refine G_leq_t rfl rfl (by omega) rfl ?_
      | refine G_leq_f rfl rfl (by omega) rfl ?_
      | refine G_leq rfl rfl rfl ?_
      | refine G_gtr_t rfl rfl (by omega) rfl ?_
      | refine G_gtr_f rfl rfl (by omega) rfl ?_
      | refine G_gtr rfl rfl rfl ?_
      | refine G_geq_t rfl rfl (by omega) rfl ?_
      | refine G_geq_f rfl rfl (by omega) rfl ?_
      | refine G_geq rfl rfl rfl ?_
      | refine G_sub rfl rfl rfl (by first | exact IntWalk.i64_in _ (by omega) | rfl) ?_
      | refine G_mul rfl rfl rfl (by first | exact IntWalk.i64_in _ (by omega) | rfl) ?_
      | refine G_xor64 rfl rfl rfl ?_
      | refine G_mul64 rfl rfl rfl ?_
      | refine G_or64 rfl rfl rfl ?_
      | refine G_and64 rfl rfl rfl ?_
      | refine G_add64 rfl rfl rfl ?_
      | refine G_sub64 rfl rfl rfl ?_
      | refine G_shr64 rfl rfl rfl rfl ?_
      | refine G_shl64 rfl rfl rfl rfl ?_
      | refine G_eqlB rfl rfl rfl ?_
      | refine G_neqB rfl rfl rfl ?_)
    | (refine Is_load ?_; first
      | refine G_load rfl rfl rfl ?_
      | refine G_load_cell rfl (by first | assumption | (apply_assumption; done) | fail) rfl ?_)
    | (refine Is_store ?_; refine G_store rfl rfl rfl rfl rfl ?_)
    | (refine Is_builtin ?_; first
      | refine G_len rfl rfl ?_)
    | (refine Is_nilCheck ?_; refine G_nilCheck rfl rfl ?_)
    | (refine Is_convert ?_; first
      | refine G_u64_int rfl rfl ?_
      | refine G_to_u64 rfl rfl ?_
      | refine G_conv _ rfl rfl (by first | exact IntWalk.i64_in _ (by omega) | rfl) ?_)
    | (refine Is_fieldAddr ?_; refine G_fieldOff rfl rfl ?_)
    | (refine Is_indexAddr ?_; first
      | refine G_indexA rfl rfl (by first | decide | omega) rfl ?_
      | refine G_indexP rfl rfl (by first | assumption | omega) rfl ?_)
    | (refine Is_un ?_; refine G_not rfl rfl ?_)
    | (refine Is_makeFunc ?_; refine G_makeFunc rfl rfl rfl ?_)
    | (refine Is_extract ?_; refine G_extract rfl rfl rfl ?_)
    | (refine Is_guard ?_; first
      | refine G_guard_yes (by rw [hops.eq]; rfl) rfl (by simp) ?_
      | refine G_guard_no (by rw [hops.eq]; rfl) rfl rfl rfl ?_)
    | (refine Is_pick ?_; first
      | refine G_pick_t rfl rfl rfl ?_
      | refine G_pick_f rfl rfl rfl ?_)
    | refine GC_cond_t rfl ?_
    | refine GC_cond_f rfl ?_
    | refine GC_seq ?_
    | refine GC_region (fun ops hops => ?_)
    | (refine G_nil ?_; try clear hops; try clear ops)
    | refine At_then ?_
    | refine GC_skip ?_
    | refine GC_block ?_
    | refine GC_exit ?_
    | refine GC_ret ?_
    | refine At_then_exit ?_
    | refine At_then_ret ?_
    | refine At_block ?_
    | refine At_block_ret ?_
    | refine At_block_hit ?_
    | refine At_block_miss rfl ?_
    | refine At_round_exit ?_
    | refine At_round_ret ?_)
          (refine X_done rfl ?_; first | exact List.Sublist.refl _ | exact List.sublist_append_right _ _ | exact List.Sublist.cons _ (List.Sublist.refl _))
        repeat
          apply DR_x rfl rfl rfl
          (· intro mm
             (repeat (first
    | (refine Is_move ?_; refine G_move rfl rfl ?_)
    | (refine Is_assign ?_; refine G_assign rfl rfl ?_)
    | (refine Is_bin ?_; first
      | refine G_lss_t rfl rfl (by omega) rfl ?_
      | refine G_lss_f rfl rfl (by omega) rfl ?_
      | refine G_lss rfl rfl rfl ?_
      | refine G_add rfl rfl rfl (by first | exact IntWalk.i64_in _ (by omega) | rfl) ?_
      | refine G_eql_t rfl rfl (by first | with_reducible rfl | assumption | decide +kernel | omega) rfl ?_
      | refine G_eql_f rfl rfl (by first | decide +kernel | omega | assumption) rfl ?_
      | refine G_eql rfl rfl rfl ?_
      | refine G_neq_f rfl rfl (by first | with_reducible rfl | assumption | decide +kernel | omega) rfl ?_
      | refine G_neq_t rfl rfl (by first | decide +kernel | omega | assumption) rfl ?_
      | refine G_neq rfl rfl rfl ?_
      | refine G_leq_t rfl rfl (by omega) rfl ?_
      | refine G_leq_f rfl rfl (by omega) rfl ?_
      | refine G_leq rfl rfl rfl ?_
      | refine G_gtr_t rfl rfl (by omega) rfl ?_
      | refine G_gtr_f rfl rfl (by omega) rfl ?_
      | refine G_gtr rfl rfl rfl ?_
      | refine G_geq_t rfl rfl (by omega) rfl ?_
      | refine G_geq_f rfl rfl (by omega) rfl ?_
      | refine G_geq rfl rfl rfl ?_
      | refine G_sub rfl rfl rfl (by first | exact IntWalk.i64_in _ (by omega) | rfl) ?_
      | refine G_mul rfl rfl rfl (by first | exact IntWalk.i64_in _ (by omega) | rfl) ?_
      | refine G_xor64 rfl rfl rfl ?_
      | refine G_mul64 rfl rfl rfl ?_
      | refine G_or64 rfl rfl rfl ?_
      | refine G_and64 rfl rfl rfl ?_
      | refine G_add64 rfl rfl rfl ?_
      | refine G_sub64 rfl rfl rfl ?_
      | refine G_shr64 rfl rfl rfl rfl ?_
      | refine G_shl64 rfl rfl rfl rfl ?_
      | refine G_eqlB rfl rfl rfl ?_
      | refine G_neqB rfl rfl rfl ?_)
    | (refine Is_load ?_; first
      | refine G_load rfl rfl rfl ?_
      | refine G_load_cell rfl (by first | assumption | (apply_assumption; done) | fail) rfl ?_)
    | (refine Is_store ?_; refine G_store rfl rfl rfl rfl rfl ?_)
    | (refine Is_builtin ?_; first
      | refine G_len rfl rfl ?_)
    | (refine Is_nilCheck ?_; refine G_nilCheck rfl rfl ?_)
    | (refine Is_convert ?_; first
      | refine G_u64_int rfl rfl ?_
      | refine G_to_u64 rfl rfl ?_
      | refine G_conv _ rfl rfl (by first | exact IntWalk.i64_in _ (by omega) | rfl) ?_)
    | (refine Is_fieldAddr ?_; refine G_fieldOff rfl rfl ?_)
    | (refine Is_indexAddr ?_; first
      | refine G_indexA rfl rfl (by first | decide | omega) rfl ?_
      | refine G_indexP rfl rfl (by first | assumption | omega) rfl ?_)
    | (refine Is_un ?_; refine G_not rfl rfl ?_)
    | (refine Is_makeFunc ?_; refine G_makeFunc rfl rfl rfl ?_)
    | (refine Is_extract ?_; refine G_extract rfl rfl rfl ?_)
    | (refine Is_guard ?_; first
      | refine G_guard_yes (by rw [hops.eq]; rfl) rfl (by simp) ?_
      | refine G_guard_no (by rw [hops.eq]; rfl) rfl rfl rfl ?_)
    | (refine Is_pick ?_; first
      | refine G_pick_t rfl rfl rfl ?_
      | refine G_pick_f rfl rfl rfl ?_)
    | refine GC_cond_t rfl ?_
    | refine GC_cond_f rfl ?_
    | refine GC_seq ?_
    | refine GC_region (fun ops hops => ?_)
    | (refine G_nil ?_; try clear hops; try clear ops)
    | refine At_then ?_
    | refine GC_skip ?_
    | refine GC_block ?_
    | refine GC_exit ?_
    | refine GC_ret ?_
    | refine At_then_exit ?_
    | refine At_then_ret ?_
    | refine At_block ?_
    | refine At_block_ret ?_
    | refine At_block_hit ?_
    | refine At_block_miss rfl ?_
    | refine At_round_exit ?_
    | refine At_round_ret ?_))
             exact X_done rfl (List.Sublist.refl _))
        rw [decs (nat_eqq.trans ((hl' ▸ digW_set _ l bl i hil x hxb : digB _ (l.map (BitVec.ofInt 64)) = digB _ (l'.map (BitVec.ofInt 64)) ↔ l[i] = x).trans (by rw [hxi]) : _ ↔ l[i] = l'[i]))]
        repeat
          apply DR_x rfl rfl rfl
          (· intro mm
             (repeat (first
    | (refine Is_move ?_; refine G_move rfl rfl ?_)
    | (refine Is_assign ?_; refine G_assign rfl rfl ?_)
    | (refine Is_bin ?_; first
      | refine G_lss_t rfl rfl (by omega) rfl ?_
      | refine G_lss_f rfl rfl (by omega) rfl ?_
      | refine G_lss rfl rfl rfl ?_
      | refine G_add rfl rfl rfl (by first | exact IntWalk.i64_in _ (by omega) | rfl) ?_
      | refine G_eql_t rfl rfl (by first | with_reducible rfl | assumption | decide +kernel | omega) rfl ?_
      | refine G_eql_f rfl rfl (by first | decide +kernel | omega | assumption) rfl ?_
      | refine G_eql rfl rfl rfl ?_
      | refine G_neq_f rfl rfl (by first | with_reducible rfl | assumption | decide +kernel | omega) rfl ?_
      | refine G_neq_t rfl rfl (by first | decide +kernel | omega | assumption) rfl ?_
      | refine G_neq rfl rfl rfl ?_
      | refine G_leq_t rfl rfl (by omega) rfl ?_
      | refine G_leq_f rfl rfl (by omega) rfl ?_
      | refine G_leq rfl rfl rfl ?_
      | refine G_gtr_t rfl rfl (by omega) rfl ?_
      | refine G_gtr_f rfl rfl (by omega) rfl ?_
      | refine G_gtr rfl rfl rfl ?_
      | refine G_geq_t rfl rfl (by omega) rfl ?_
      | refine G_geq_f rfl rfl (by omega) rfl ?_
      | refine G_geq rfl rfl rfl ?_
      | refine G_sub rfl rfl rfl (by first | exact IntWalk.i64_in _ (by omega) | rfl) ?_
      | refine G_mul rfl rfl rfl (by first | exact IntWalk.i64_in _ (by omega) | rfl) ?_
      | refine G_xor64 rfl rfl rfl ?_
      | refine G_mul64 rfl rfl rfl ?_
      | refine G_or64 rfl rfl rfl ?_
      | refine G_and64 rfl rfl rfl ?_
      | refine G_add64 rfl rfl rfl ?_
      | refine G_sub64 rfl rfl rfl ?_
      | refine G_shr64 rfl rfl rfl rfl ?_
      | refine G_shl64 rfl rfl rfl rfl ?_
      | refine G_eqlB rfl rfl rfl ?_
      | refine G_neqB rfl rfl rfl ?_)
    | (refine Is_load ?_; first
      | refine G_load rfl rfl rfl ?_
      | refine G_load_cell rfl (by first | assumption | (apply_assumption; done) | fail) rfl ?_)
    | (refine Is_store ?_; refine G_store rfl rfl rfl rfl rfl ?_)
    | (refine Is_builtin ?_; first
      | refine G_len rfl rfl ?_)
    | (refine Is_nilCheck ?_; refine G_nilCheck rfl rfl ?_)
    | (refine Is_convert ?_; first
      | refine G_u64_int rfl rfl ?_
      | refine G_to_u64 rfl rfl ?_
      | refine G_conv _ rfl rfl (by first | exact IntWalk.i64_in _ (by omega) | rfl) ?_)
    | (refine Is_fieldAddr ?_; refine G_fieldOff rfl rfl ?_)
    | (refine Is_indexAddr ?_; first
      | refine G_indexA rfl rfl (by first | decide | omega) rfl ?_
      | refine G_indexP rfl rfl (by first | assumption | omega) rfl ?_)
    | (refine Is_un ?_; refine G_not rfl rfl ?_)
    | (refine Is_makeFunc ?_; refine G_makeFunc rfl rfl rfl ?_)
    | (refine Is_extract ?_; refine G_extract rfl rfl rfl ?_)
    | (refine Is_guard ?_; first
      | refine G_guard_yes (by rw [hops.eq]; rfl) rfl (by simp) ?_
      | refine G_guard_no (by rw [hops.eq]; rfl) rfl rfl rfl ?_)
    | (refine Is_pick ?_; first
      | refine G_pick_t rfl rfl rfl ?_
      | refine G_pick_f rfl rfl rfl ?_)
    | refine GC_cond_t rfl ?_
    | refine GC_cond_f rfl ?_
    | refine GC_seq ?_
    | refine GC_region (fun ops hops => ?_)
    | (refine G_nil ?_; try clear hops; try clear ops)
    | refine At_then ?_
    | refine GC_skip ?_
    | refine GC_block ?_
    | refine GC_exit ?_
    | refine GC_ret ?_
    | refine At_then_exit ?_
    | refine At_then_ret ?_
    | refine At_block ?_
    | refine At_block_ret ?_
    | refine At_block_hit ?_
    | refine At_block_miss rfl ?_
    | refine At_round_exit ?_
    | refine At_round_ret ?_))
             exact X_done rfl (List.Sublist.refl _))
        apply DR_x rfl rfl rfl
        · intro mm
          repeat (first
    | (refine Is_move ?_; refine G_move rfl rfl ?_)
    | (refine Is_assign ?_; refine G_assign rfl rfl ?_)
    | (refine Is_bin ?_; first
      | refine G_lss_t rfl rfl (by omega) rfl ?_
      | refine G_lss_f rfl rfl (by omega) rfl ?_
      | refine G_lss rfl rfl rfl ?_
      | refine G_add rfl rfl rfl (by first | exact IntWalk.i64_in _ (by omega) | rfl) ?_
      | refine G_eql_t rfl rfl (by first | with_reducible rfl | assumption | decide +kernel | omega) rfl ?_
      | refine G_eql_f rfl rfl (by first | decide +kernel | omega | assumption) rfl ?_
      | refine G_eql rfl rfl rfl ?_
      | refine G_neq_f rfl rfl (by first | with_reducible rfl | assumption | decide +kernel | omega) rfl ?_
      | refine G_neq_t rfl rfl (by first | decide +kernel | omega | assumption) rfl ?_
      | refine G_neq rfl rfl rfl ?_
      | refine G_leq_t rfl rfl (by omega) rfl ?_
      | refine G_leq_f rfl rfl (by omega) rfl ?_
      | refine G_leq rfl rfl rfl ?_
      | refine G_gtr_t rfl rfl (by omega) rfl ?_
      | refine G_gtr_f rfl rfl (by omega) rfl ?_
      | refine G_gtr rfl rfl rfl ?_
      | refine G_geq_t rfl rfl (by omega) rfl ?_
      | refine G_geq_f rfl rfl (by omega) rfl ?_
      | refine G_geq rfl rfl rfl ?_
      | refine G_sub rfl rfl rfl (by first | exact IntWalk.i64_in _ (by omega) | rfl) ?_
      | refine G_mul rfl rfl rfl (by first | exact IntWalk.i64_in _ (by omega) | rfl) ?_
      | refine G_xor64 rfl rfl rfl ?_
      | refine G_mul64 rfl rfl rfl ?_
      | refine G_or64 rfl rfl rfl ?_
      | refine G_and64 rfl rfl rfl ?_
      | refine G_add64 rfl rfl rfl ?_
      | refine G_sub64 rfl rfl rfl ?_
      | refine G_shr64 rfl rfl rfl rfl ?_
      | refine G_shl64 rfl rfl rfl rfl ?_
      | refine G_eqlB rfl rfl rfl ?_
      | refine G_neqB rfl rfl rfl ?_)
    | (refine Is_load ?_; first
      | refine G_load rfl rfl rfl ?_
      | refine G_load_cell rfl (by first | assumption | (apply_assumption; done) | fail) rfl ?_)
    | (refine Is_store ?_; refine G_store rfl rfl rfl rfl rfl ?_)
    | (refine Is_builtin ?_; first
      | refine G_len rfl rfl ?_)
    | (refine Is_nilCheck ?_; refine G_nilCheck rfl rfl ?_)
    | (refine Is_convert ?_; first
      | refine G_u64_int rfl rfl ?_
      | refine G_to_u64 rfl rfl ?_
      | refine G_conv _ rfl rfl (by first | exact IntWalk.i64_in _ (by omega) | rfl) ?_)
    | (refine Is_fieldAddr ?_; refine G_fieldOff rfl rfl ?_)
    | (refine Is_indexAddr ?_; first
      | refine G_indexA rfl rfl (by first | decide | omega) rfl ?_
      | refine G_indexP rfl rfl (by first | assumption | omega) rfl ?_)
    | (refine Is_un ?_; refine G_not rfl rfl ?_)
    | (refine Is_makeFunc ?_; refine G_makeFunc rfl rfl rfl ?_)
    | (refine Is_extract ?_; refine G_extract rfl rfl rfl ?_)
    | (refine Is_guard ?_; first
      | refine G_guard_yes (by rw [hops.eq]; rfl) rfl (by simp) ?_
      | refine G_guard_no (by rw [hops.eq]; rfl) rfl rfl rfl ?_)
    | (refine Is_pick ?_; first
      | refine G_pick_t rfl rfl rfl ?_
      | refine G_pick_f rfl rfl rfl ?_)
    | refine GC_cond_t rfl ?_
    | refine GC_cond_f rfl ?_
    | refine GC_seq ?_
    | refine GC_region (fun ops hops => ?_)
    | (refine G_nil ?_; try clear hops; try clear ops)
    | refine At_then ?_
    | refine GC_skip ?_
    | refine GC_block ?_
    | refine GC_exit ?_
    | refine GC_ret ?_
    | refine At_then_exit ?_
    | refine At_then_ret ?_
    | refine At_block ?_
    | refine At_block_ret ?_
    | refine At_block_hit ?_
    | refine At_block_miss rfl ?_
    | refine At_round_exit ?_
    | refine At_round_ret ?_)
          refine G_call rfl (fun w1 hw1 => dig_List _ (bw l) w1 (RdS.own (e := 24) (n := l.length) (by simp) w1 hw1)) rfl ?_
          repeat (first
    | (refine Is_move ?_; refine G_move rfl rfl ?_)
    | (refine Is_assign ?_; refine G_assign rfl rfl ?_)
    | (refine Is_bin ?_; first
      | refine G_lss_t rfl rfl (by omega) rfl ?_
      | refine G_lss_f rfl rfl (by omega) rfl ?_
      | refine G_lss rfl rfl rfl ?_
      | refine G_add rfl rfl rfl (by first | exact IntWalk.i64_in _ (by omega) | rfl) ?_
      | refine G_eql_t rfl rfl (by first | with_reducible rfl | assumption | decide +kernel | omega) rfl ?_
      | refine G_eql_f rfl rfl (by first | decide +kernel | omega | assumption) rfl ?_
      | refine G_eql rfl rfl rfl ?_
      | refine G_neq_f rfl rfl (by first | with_reducible rfl | assumption | decide +kernel | omega) rfl ?_
      | refine G_neq_t rfl rfl (by first | decide +kernel | omega | assumption) rfl ?_
      | refine G_neq rfl rfl rfl ?_
      | refine G_leq_t rfl rfl (by omega) rfl ?_
      | refine G_leq_f rfl rfl (by omega) rfl ?_
      | refine G_leq rfl rfl rfl ?_
      | refine G_gtr_t rfl rfl (by omega) rfl ?_
      | refine G_gtr_f rfl rfl (by omega) rfl ?_
      | refine G_gtr rfl rfl rfl ?_
      | refine G_geq_t rfl rfl (by omega) rfl ?_
      | refine G_geq_f rfl rfl (by omega) rfl ?_
      | refine G_geq rfl rfl rfl ?_
      | refine G_sub rfl rfl rfl (by first | exact IntWalk.i64_in _ (by omega) | rfl) ?_
      | refine G_mul rfl rfl rfl (by first | exact IntWalk.i64_in _ (by omega) | rfl) ?_
      | refine G_xor64 rfl rfl rfl ?_
      | refine G_mul64 rfl rfl rfl ?_
      | refine G_or64 rfl rfl rfl ?_
      | refine G_and64 rfl rfl rfl ?_
      | refine G_add64 rfl rfl rfl ?_
      | refine G_sub64 rfl rfl rfl ?_
      | refine G_shr64 rfl rfl rfl rfl ?_
      | refine G_shl64 rfl rfl rfl rfl ?_
      | refine G_eqlB rfl rfl rfl ?_
      | refine G_neqB rfl rfl rfl ?_)
    | (refine Is_load ?_; first
      | refine G_load rfl rfl rfl ?_
      | refine G_load_cell rfl (by first | assumption | (apply_assumption; done) | fail) rfl ?_)
    | (refine Is_store ?_; refine G_store rfl rfl rfl rfl rfl ?_)
    | (refine Is_builtin ?_; first
      | refine G_len rfl rfl ?_)
    | (refine Is_nilCheck ?_; refine G_nilCheck rfl rfl ?_)
    | (refine Is_convert ?_; first
      | refine G_u64_int rfl rfl ?_
      | refine G_to_u64 rfl rfl ?_
      | refine G_conv _ rfl rfl (by first | exact IntWalk.i64_in _ (by omega) | rfl) ?_)
    | (refine Is_fieldAddr ?_; refine G_fieldOff rfl rfl ?_)
    | (refine Is_indexAddr ?_; first
      | refine G_indexA rfl rfl (by first | decide | omega) rfl ?_
      | refine G_indexP rfl rfl (by first | assumption | omega) rfl ?_)
    | (refine Is_un ?_; refine G_not rfl rfl ?_)
    | (refine Is_makeFunc ?_; refine G_makeFunc rfl rfl rfl ?_)
    | (refine Is_extract ?_; refine G_extract rfl rfl rfl ?_)
    | (refine Is_guard ?_; first
      | refine G_guard_yes (by rw [hops.eq]; rfl) rfl (by simp) ?_
      | refine G_guard_no (by rw [hops.eq]; rfl) rfl rfl rfl ?_)
    | (refine Is_pick ?_; first
      | refine G_pick_t rfl rfl rfl ?_
      | refine G_pick_f rfl rfl rfl ?_)
    | refine GC_cond_t rfl ?_
    | refine GC_cond_f rfl ?_
    | refine GC_seq ?_
    | refine GC_region (fun ops hops => ?_)
    | (refine G_nil ?_; try clear hops; try clear ops)
    | refine At_then ?_
    | refine GC_skip ?_
    | refine GC_block ?_
    | refine GC_exit ?_
    | refine GC_ret ?_
    | refine At_then_exit ?_
    | refine At_then_ret ?_
    | refine At_block ?_
    | refine At_block_ret ?_
    | refine At_block_hit ?_
    | refine At_block_miss rfl ?_
    | refine At_round_exit ?_
    | refine At_round_ret ?_)
          (refine X_done rfl ?_; first | exact List.Sublist.refl _ | exact List.sublist_append_right _ _ | exact List.Sublist.cons _ (List.Sublist.refl _))
        repeat
          apply DR_x rfl rfl rfl
          (· intro mm
             (repeat (first
    | (refine Is_move ?_; refine G_move rfl rfl ?_)
    | (refine Is_assign ?_; refine G_assign rfl rfl ?_)
    | (refine Is_bin ?_; first
      | refine G_lss_t rfl rfl (by omega) rfl ?_
      | refine G_lss_f rfl rfl (by omega) rfl ?_
      | refine G_lss rfl rfl rfl ?_
      | refine G_add rfl rfl rfl (by first | exact IntWalk.i64_in _ (by omega) | rfl) ?_
      | refine G_eql_t rfl rfl (by first | with_reducible rfl | assumption | decide +kernel | omega) rfl ?_
      | refine G_eql_f rfl rfl (by first | decide +kernel | omega | assumption) rfl ?_
      | refine G_eql rfl rfl rfl ?_
      | refine G_neq_f rfl rfl (by first | with_reducible rfl | assumption | decide +kernel | omega) rfl ?_
      | refine G_neq_t rfl rfl (by first | decide +kernel | omega | assumption) rfl ?_
      | refine G_neq rfl rfl rfl ?_
      | refine G_leq_t rfl rfl (by omega) rfl ?_
      | refine G_leq_f rfl rfl (by omega) rfl ?_
      | refine G_leq rfl rfl rfl ?_
      | refine G_gtr_t rfl rfl (by omega) rfl ?_
      | refine G_gtr_f rfl rfl (by omega) rfl ?_
      | refine G_gtr rfl rfl rfl ?_
      | refine G_geq_t rfl rfl (by omega) rfl ?_
      | refine G_geq_f rfl rfl (by omega) rfl ?_
      | refine G_geq rfl rfl rfl ?_
      | refine G_sub rfl rfl rfl (by first | exact IntWalk.i64_in _ (by omega) | rfl) ?_
      | refine G_mul rfl rfl rfl (by first | exact IntWalk.i64_in _ (by omega) | rfl) ?_
      | refine G_xor64 rfl rfl rfl ?_
      | refine G_mul64 rfl rfl rfl ?_
      | refine G_or64 rfl rfl rfl ?_
      | refine G_and64 rfl rfl rfl ?_
      | refine G_add64 rfl rfl rfl ?_
      | refine G_sub64 rfl rfl rfl ?_
      | refine G_shr64 rfl rfl rfl rfl ?_
      | refine G_shl64 rfl rfl rfl rfl ?_
      | refine G_eqlB rfl rfl rfl ?_
      | refine G_neqB rfl rfl rfl ?_)
    | (refine Is_load ?_; first
      | refine G_load rfl rfl rfl ?_
      | refine G_load_cell rfl (by first | assumption | (apply_assumption; done) | fail) rfl ?_)
    | (refine Is_store ?_; refine G_store rfl rfl rfl rfl rfl ?_)
    | (refine Is_builtin ?_; first
      | refine G_len rfl rfl ?_)
    | (refine Is_nilCheck ?_; refine G_nilCheck rfl rfl ?_)
    | (refine Is_convert ?_; first
      | refine G_u64_int rfl rfl ?_
      | refine G_to_u64 rfl rfl ?_
      | refine G_conv _ rfl rfl (by first | exact IntWalk.i64_in _ (by omega) | rfl) ?_)
    | (refine Is_fieldAddr ?_; refine G_fieldOff rfl rfl ?_)
    | (refine Is_indexAddr ?_; first
      | refine G_indexA rfl rfl (by first | decide | omega) rfl ?_
      | refine G_indexP rfl rfl (by first | assumption | omega) rfl ?_)
    | (refine Is_un ?_; refine G_not rfl rfl ?_)
    | (refine Is_makeFunc ?_; refine G_makeFunc rfl rfl rfl ?_)
    | (refine Is_extract ?_; refine G_extract rfl rfl rfl ?_)
    | (refine Is_guard ?_; first
      | refine G_guard_yes (by rw [hops.eq]; rfl) rfl (by simp) ?_
      | refine G_guard_no (by rw [hops.eq]; rfl) rfl rfl rfl ?_)
    | (refine Is_pick ?_; first
      | refine G_pick_t rfl rfl rfl ?_
      | refine G_pick_f rfl rfl rfl ?_)
    | refine GC_cond_t rfl ?_
    | refine GC_cond_f rfl ?_
    | refine GC_seq ?_
    | refine GC_region (fun ops hops => ?_)
    | (refine G_nil ?_; try clear hops; try clear ops)
    | refine At_then ?_
    | refine GC_skip ?_
    | refine GC_block ?_
    | refine GC_exit ?_
    | refine GC_ret ?_
    | refine At_then_exit ?_
    | refine At_then_ret ?_
    | refine At_block ?_
    | refine At_block_ret ?_
    | refine At_block_hit ?_
    | refine At_block_miss rfl ?_
    | refine At_round_exit ?_
    | refine At_round_ret ?_))
             exact X_done rfl (List.Sublist.refl _))
        apply DR_x rfl rfl rfl
        · intro mm
          repeat (first
    | (refine Is_move ?_; refine G_move rfl rfl ?_)
    | (refine Is_assign ?_; refine G_assign rfl rfl ?_)
    | (refine Is_bin ?_; first
      | refine G_lss_t rfl rfl (by omega) rfl ?_
      | refine G_lss_f rfl rfl (by omega) rfl ?_
      | refine G_lss rfl rfl rfl ?_
      | refine G_add rfl rfl rfl (by first | exact IntWalk.i64_in _ (by omega) | rfl) ?_
      | refine G_eql_t rfl rfl (by first | with_reducible rfl | assumption | decide +kernel | omega) rfl ?_
      | refine G_eql_f rfl rfl (by first | decide +kernel | omega | assumption) rfl ?_
      | refine G_eql rfl rfl rfl ?_
      | refine G_neq_f rfl rfl (by first | with_reducible rfl | assumption | decide +kernel | omega) rfl ?_
      | refine G_neq_t rfl rfl (by first | decide +kernel | omega | assumption) rfl ?_
      | refine G_neq rfl rfl rfl ?_
      | refine G_leq_t rfl rfl (by omega) rfl ?_
      | refine G_leq_f rfl rfl (by omega) rfl ?_
      | refine G_leq rfl rfl rfl ?_
      | refine G_gtr_t rfl rfl (by omega) rfl ?_
      | refine G_gtr_f rfl rfl (by omega) rfl ?_
      | refine G_gtr rfl rfl rfl ?_
      | refine G_geq_t rfl rfl (by omega) rfl ?_
      | refine G_geq_f rfl rfl (by omega) rfl ?_
      | refine G_geq rfl rfl rfl ?_
      | refine G_sub rfl rfl rfl (by first | exact IntWalk.i64_in _ (by omega) | rfl) ?_
      | refine G_mul rfl rfl rfl (by first | exact IntWalk.i64_in _ (by omega) | rfl) ?_
      | refine G_xor64 rfl rfl rfl ?_
      | refine G_mul64 rfl rfl rfl ?_
      | refine G_or64 rfl rfl rfl ?_
      | refine G_and64 rfl rfl rfl ?_
      | refine G_add64 rfl rfl rfl ?_
      | refine G_sub64 rfl rfl rfl ?_
      | refine G_shr64 rfl rfl rfl rfl ?_
      | refine G_shl64 rfl rfl rfl rfl ?_
      | refine G_eqlB rfl rfl rfl ?_
      | refine G_neqB rfl rfl rfl ?_)
    | (refine Is_load ?_; first
      | refine G_load rfl rfl rfl ?_
      | refine G_load_cell rfl (by first | assumption | (apply_assumption; done) | fail) rfl ?_)
    | (refine Is_store ?_; refine G_store rfl rfl rfl rfl rfl ?_)
    | (refine Is_builtin ?_; first
      | refine G_len rfl rfl ?_)
    | (refine Is_nilCheck ?_; refine G_nilCheck rfl rfl ?_)
    | (refine Is_convert ?_; first
      | refine G_u64_int rfl rfl ?_
      | refine G_to_u64 rfl rfl ?_
      | refine G_conv _ rfl rfl (by first | exact IntWalk.i64_in _ (by omega) | rfl) ?_)
    | (refine Is_fieldAddr ?_; refine G_fieldOff rfl rfl ?_)
    | (refine Is_indexAddr ?_; first
      | refine G_indexA rfl rfl (by first | decide | omega) rfl ?_
      | refine G_indexP rfl rfl (by first | assumption | omega) rfl ?_)
    | (refine Is_un ?_; refine G_not rfl rfl ?_)
    | (refine Is_makeFunc ?_; refine G_makeFunc rfl rfl rfl ?_)
    | (refine Is_extract ?_; refine G_extract rfl rfl rfl ?_)
    | (refine Is_guard ?_; first
      | refine G_guard_yes (by rw [hops.eq]; rfl) rfl (by simp) ?_
      | refine G_guard_no (by rw [hops.eq]; rfl) rfl rfl rfl ?_)
    | (refine Is_pick ?_; first
      | refine G_pick_t rfl rfl rfl ?_
      | refine G_pick_f rfl rfl rfl ?_)
    | refine GC_cond_t rfl ?_
    | refine GC_cond_f rfl ?_
    | refine GC_seq ?_
    | refine GC_region (fun ops hops => ?_)
    | (refine G_nil ?_; try clear hops; try clear ops)
    | refine At_then ?_
    | refine GC_skip ?_
    | refine GC_block ?_
    | refine GC_exit ?_
    | refine GC_ret ?_
    | refine At_then_exit ?_
    | refine At_then_ret ?_
    | refine At_block ?_
    | refine At_block_ret ?_
    | refine At_block_hit ?_
    | refine At_block_miss rfl ?_
    | refine At_round_exit ?_
    | refine At_round_ret ?_)
          refine G_call rfl (fun w1 hw1 => dig_List _ (bw l') w1 (RdS.own (e := 24) (n := l.length) (by simp) w1 hw1)) rfl ?_
          repeat (first
    | (refine Is_move ?_; refine G_move rfl rfl ?_)
    | (refine Is_assign ?_; refine G_assign rfl rfl ?_)
    | (refine Is_bin ?_; first
      | refine G_lss_t rfl rfl (by omega) rfl ?_
      | refine G_lss_f rfl rfl (by omega) rfl ?_
      | refine G_lss rfl rfl rfl ?_
      | refine G_add rfl rfl rfl (by first | exact IntWalk.i64_in _ (by omega) | rfl) ?_
      | refine G_eql_t rfl rfl (by first | with_reducible rfl | assumption | decide +kernel | omega) rfl ?_
      | refine G_eql_f rfl rfl (by first | decide +kernel | omega | assumption) rfl ?_
      | refine G_eql rfl rfl rfl ?_
      | refine G_neq_f rfl rfl (by first | with_reducible rfl | assumption | decide +kernel | omega) rfl ?_
      | refine G_neq_t rfl rfl (by first | decide +kernel | omega | assumption) rfl ?_
      | refine G_neq rfl rfl rfl ?_
      | refine G_leq_t rfl rfl (by omega) rfl ?_
      | refine G_leq_f rfl rfl (by omega) rfl ?_
      | refine G_leq rfl rfl rfl ?_
      | refine G_gtr_t rfl rfl (by omega) rfl ?_
      | refine G_gtr_f rfl rfl (by omega) rfl ?_
      | refine G_gtr rfl rfl rfl ?_
      | refine G_geq_t rfl rfl (by omega) rfl ?_
      | refine G_geq_f rfl rfl (by omega) rfl ?_
      | refine G_geq rfl rfl rfl ?_
      | refine G_sub rfl rfl rfl (by first | exact IntWalk.i64_in _ (by omega) | rfl) ?_
      | refine G_mul rfl rfl rfl (by first | exact IntWalk.i64_in _ (by omega) | rfl) ?_
      | refine G_xor64 rfl rfl rfl ?_
      | refine G_mul64 rfl rfl rfl ?_
      | refine G_or64 rfl rfl rfl ?_
      | refine G_and64 rfl rfl rfl ?_
      | refine G_add64 rfl rfl rfl ?_
      | refine G_sub64 rfl rfl rfl ?_
      | refine G_shr64 rfl rfl rfl rfl ?_
      | refine G_shl64 rfl rfl rfl rfl ?_
      | refine G_eqlB rfl rfl rfl ?_
      | refine G_neqB rfl rfl rfl ?_)
    | (refine Is_load ?_; first
      | refine G_load rfl rfl rfl ?_
      | refine G_load_cell rfl (by first | assumption | (apply_assumption; done) | fail) rfl ?_)
    | (refine Is_store ?_; refine G_store rfl rfl rfl rfl rfl ?_)
    | (refine Is_builtin ?_; first
      | refine G_len rfl rfl ?_)
    | (refine Is_nilCheck ?_; refine G_nilCheck rfl rfl ?_)
    | (refine Is_convert ?_; first
      | refine G_u64_int rfl rfl ?_
      | refine G_to_u64 rfl rfl ?_
      | refine G_conv _ rfl rfl (by first | exact IntWalk.i64_in _ (by omega) | rfl) ?_)
    | (refine Is_fieldAddr ?_; refine G_fieldOff rfl rfl ?_)
    | (refine Is_indexAddr ?_; first
      | refine G_indexA rfl rfl (by first | decide | omega) rfl ?_
      | refine G_indexP rfl rfl (by first | assumption | omega) rfl ?_)
    | (refine Is_un ?_; refine G_not rfl rfl ?_)
    | (refine Is_makeFunc ?_; refine G_makeFunc rfl rfl rfl ?_)
    | (refine Is_extract ?_; refine G_extract rfl rfl rfl ?_)
    | (refine Is_guard ?_; first
      | refine G_guard_yes (by rw [hops.eq]; rfl) rfl (by simp) ?_
      | refine G_guard_no (by rw [hops.eq]; rfl) rfl rfl rfl ?_)
    | (refine Is_pick ?_; first
      | refine G_pick_t rfl rfl rfl ?_
      | refine G_pick_f rfl rfl rfl ?_)
    | refine GC_cond_t rfl ?_
    | refine GC_cond_f rfl ?_
    | refine GC_seq ?_
    | refine GC_region (fun ops hops => ?_)
    | (refine G_nil ?_; try clear hops; try clear ops)
    | refine At_then ?_
    | refine GC_skip ?_
    | refine GC_block ?_
    | refine GC_exit ?_
    | refine GC_ret ?_
    | refine At_then_exit ?_
    | refine At_then_ret ?_
    | refine At_block ?_
    | refine At_block_ret ?_
    | refine At_block_hit ?_
    | refine At_block_miss rfl ?_
    | refine At_round_exit ?_
    | refine At_round_ret ?_)
          (refine X_done rfl ?_; first | exact List.Sublist.refl _ | exact List.sublist_append_right _ _ | exact List.Sublist.cons _ (List.Sublist.refl _))
        repeat
          apply DR_x rfl rfl rfl
          (· intro mm
             (repeat (first
    | (refine Is_move ?_; refine G_move rfl rfl ?_)
    | (refine Is_assign ?_; refine G_assign rfl rfl ?_)
    | (refine Is_bin ?_; first
      | refine G_lss_t rfl rfl (by omega) rfl ?_
      | refine G_lss_f rfl rfl (by omega) rfl ?_
      | refine G_lss rfl rfl rfl ?_
      | refine G_add rfl rfl rfl (by first | exact IntWalk.i64_in _ (by omega) | rfl) ?_
      | refine G_eql_t rfl rfl (by first | with_reducible rfl | assumption | decide +kernel | omega) rfl ?_
      | refine G_eql_f rfl rfl (by first | decide +kernel | omega | assumption) rfl ?_
      | refine G_eql rfl rfl rfl ?_
      | refine G_neq_f rfl rfl (by first | with_reducible rfl | assumption | decide +kernel | omega) rfl ?_
      | refine G_neq_t rfl rfl (by first | decide +kernel | omega | assumption) rfl ?_
      | refine G_neq rfl rfl rfl ?_
      | refine G_leq_t rfl rfl (by omega) rfl ?_
      | refine G_leq_f rfl rfl (by omega) rfl ?_
      | refine G_leq rfl rfl rfl ?_
      | refine G_gtr_t rfl rfl (by omega) rfl ?_
      | refine G_gtr_f rfl rfl (by omega) rfl ?_
      | refine G_gtr rfl rfl rfl ?_
      | refine G_geq_t rfl rfl (by omega) rfl ?_
      | refine G_geq_f rfl rfl (by omega) rfl ?_
      | refine G_geq rfl rfl rfl ?_
      | refine G_sub rfl rfl rfl (by first | exact IntWalk.i64_in _ (by omega) | rfl) ?_
      | refine G_mul rfl rfl rfl (by first | exact IntWalk.i64_in _ (by omega) | rfl) ?_
      | refine G_xor64 rfl rfl rfl ?_
      | refine G_mul64 rfl rfl rfl ?_
      | refine G_or64 rfl rfl rfl ?_
      | refine G_and64 rfl rfl rfl ?_
      | refine G_add64 rfl rfl rfl ?_
      | refine G_sub64 rfl rfl rfl ?_
      | refine G_shr64 rfl rfl rfl rfl ?_
      | refine G_shl64 rfl rfl rfl rfl ?_
      | refine G_eqlB rfl rfl rfl ?_
      | refine G_neqB rfl rfl rfl ?_)
    | (refine Is_load ?_; first
      | refine G_load rfl rfl rfl ?_
      | refine G_load_cell rfl (by first | assumption | (apply_assumption; done) | fail) rfl ?_)
    | (refine Is_store ?_; refine G_store rfl rfl rfl rfl rfl ?_)
    | (refine Is_builtin ?_; first
      | refine G_len rfl rfl ?_)
    | (refine Is_nilCheck ?_; refine G_nilCheck rfl rfl ?_)
    | (refine Is_convert ?_; first
      | refine G_u64_int rfl rfl ?_
      | refine G_to_u64 rfl rfl ?_
      | refine G_conv _ rfl rfl (by first | exact IntWalk.i64_in _ (by omega) | rfl) ?_)
    | (refine Is_fieldAddr ?_; refine G_fieldOff rfl rfl ?_)
    | (refine Is_indexAddr ?_; first
      | refine G_indexA rfl rfl (by first | decide | omega) rfl ?_
      | refine G_indexP rfl rfl (by first | assumption | omega) rfl ?_)
    | (refine Is_un ?_; refine G_not rfl rfl ?_)
    | (refine Is_makeFunc ?_; refine G_makeFunc rfl rfl rfl ?_)
    | (refine Is_extract ?_; refine G_extract rfl rfl rfl ?_)
    | (refine Is_guard ?_; first
      | refine G_guard_yes (by rw [hops.eq]; rfl) rfl (by simp) ?_
      | refine G_guard_no (by rw [hops.eq]; rfl) rfl rfl rfl ?_)
    | (refine Is_pick ?_; first
      | refine G_pick_t rfl rfl rfl ?_
      | refine G_pick_f rfl rfl rfl ?_)
    | refine GC_cond_t rfl ?_
    | refine GC_cond_f rfl ?_
    | refine GC_seq ?_
    | refine GC_region (fun ops hops => ?_)
    | (refine G_nil ?_; try clear hops; try clear ops)
    | refine At_then ?_
    | refine GC_skip ?_
    | refine GC_block ?_
    | refine GC_exit ?_
    | refine GC_ret ?_
    | refine At_then_exit ?_
    | refine At_then_ret ?_
    | refine At_block ?_
    | refine At_block_ret ?_
    | refine At_block_hit ?_
    | refine At_block_miss rfl ?_
    | refine At_round_exit ?_
    | refine At_round_ret ?_))
             exact X_done rfl (List.Sublist.refl _))
        apply DR_x rfl rfl rfl
        · intro mm
          repeat (first
    | (refine Is_move ?_; refine G_move rfl rfl ?_)
    | (refine Is_assign ?_; refine G_assign rfl rfl ?_)
    | (refine Is_bin ?_; first
      | refine G_lss_t rfl rfl (by omega) rfl ?_
      | refine G_lss_f rfl rfl (by omega) rfl ?_
      | refine G_lss rfl rfl rfl ?_
      | refine G_add rfl rfl rfl (by first | exact IntWalk.i64_in _ (by omega) | rfl) ?_
      | refine G_eql_t rfl rfl (by first | with_reducible rfl | assumption | decide +kernel | omega) rfl ?_
      | refine G_eql_f rfl rfl (by first | decide +kernel | omega | assumption) rfl ?_
      | refine G_eql rfl rfl rfl ?_
      | refine G_neq_f rfl rfl (by first | with_reducible rfl | assumption | decide +kernel | omega) rfl ?_
      | refine G_neq_t rfl rfl (by first | decide +kernel | omega | assumption) rfl ?_
      | refine G_neq rfl rfl rfl ?_
      | refine G_leq_t rfl rfl (by omega) rfl ?_
      | refine G_leq_f rfl rfl (by omega) rfl ?_
      | refine G_leq rfl rfl rfl ?_
      | refine G_gtr_t rfl rfl (by omega) rfl ?_
      | refine G_gtr_f rfl rfl (by omega) rfl ?_
      | refine G_gtr rfl rfl rfl ?_
      | refine G_geq_t rfl rfl (by omega) rfl ?_
      | refine G_geq_f rfl rfl (by omega) rfl ?_
      | refine G_geq rfl rfl rfl ?_
      | refine G_sub rfl rfl rfl (by first | exact IntWalk.i64_in _ (by omega) | rfl) ?_
      | refine G_mul rfl rfl rfl (by first | exact IntWalk.i64_in _ (by omega) | rfl) ?_
      | refine G_xor64 rfl rfl rfl ?_
      | refine G_mul64 rfl rfl rfl ?_
      | refine G_or64 rfl rfl rfl ?_
      | refine G_and64 rfl rfl rfl ?_
      | refine G_add64 rfl rfl rfl ?_
      | refine G_sub64 rfl rfl rfl ?_
      | refine G_shr64 rfl rfl rfl rfl ?_
      | refine G_shl64 rfl rfl rfl rfl ?_
      | refine G_eqlB rfl rfl rfl ?_
      | refine G_neqB rfl rfl rfl ?_)
    | (refine Is_load ?_; first
      | refine G_load rfl rfl rfl ?_
      | refine G_load_cell rfl (by first | assumption | (apply_assumption; done) | fail) rfl ?_)
    | (refine Is_store ?_; refine G_store rfl rfl rfl rfl rfl ?_)
    | (refine Is_builtin ?_; first
      | refine G_len rfl rfl ?_)
    | (refine Is_nilCheck ?_; refine G_nilCheck rfl rfl ?_)
    | (refine Is_convert ?_; first
      | refine G_u64_int rfl rfl ?_
      | refine G_to_u64 rfl rfl ?_
      | refine G_conv _ rfl rfl (by first | exact IntWalk.i64_in _ (by omega) | rfl) ?_)
    | (refine Is_fieldAddr ?_; refine G_fieldOff rfl rfl ?_)
    | (refine Is_indexAddr ?_; first
      | refine G_indexA rfl rfl (by first | decide | omega) rfl ?_
      | refine G_indexP rfl rfl (by first | assumption | omega) rfl ?_)
    | (refine Is_un ?_; refine G_not rfl rfl ?_)
    | (refine Is_makeFunc ?_; refine G_makeFunc rfl rfl rfl ?_)
    | (refine Is_extract ?_; refine G_extract rfl rfl rfl ?_)
    | (refine Is_guard ?_; first
      | refine G_guard_yes (by rw [hops.eq]; rfl) rfl (by simp) ?_
      | refine G_guard_no (by rw [hops.eq]; rfl) rfl rfl rfl ?_)
    | (refine Is_pick ?_; first
      | refine G_pick_t rfl rfl rfl ?_
      | refine G_pick_f rfl rfl rfl ?_)
    | refine GC_cond_t rfl ?_
    | refine GC_cond_f rfl ?_
    | refine GC_seq ?_
    | refine GC_region (fun ops hops => ?_)
    | (refine G_nil ?_; try clear hops; try clear ops)
    | refine At_then ?_
    | refine GC_skip ?_
    | refine GC_block ?_
    | refine GC_exit ?_
    | refine GC_ret ?_
    | refine At_then_exit ?_
    | refine At_then_ret ?_
    | refine At_block ?_
    | refine At_block_ret ?_
    | refine At_block_hit ?_
    | refine At_block_miss rfl ?_
    | refine At_round_exit ?_
    | refine At_round_ret ?_)
          refine G_load_cell rfl (h9 ([_, _, _, _] ++ mm) (by simp)) rfl ?_
          repeat (first
    | (refine Is_move ?_; refine G_move rfl rfl ?_)
    | (refine Is_assign ?_; refine G_assign rfl rfl ?_)
    | (refine Is_bin ?_; first
      | refine G_lss_t rfl rfl (by omega) rfl ?_
      | refine G_lss_f rfl rfl (by omega) rfl ?_
      | refine G_lss rfl rfl rfl ?_
      | refine G_add rfl rfl rfl (by first | exact IntWalk.i64_in _ (by omega) | rfl) ?_
      | refine G_eql_t rfl rfl (by first | with_reducible rfl | assumption | decide +kernel | omega) rfl ?_
      | refine G_eql_f rfl rfl (by first | decide +kernel | omega | assumption) rfl ?_
      | refine G_eql rfl rfl rfl ?_
      | refine G_neq_f rfl rfl (by first | with_reducible rfl | assumption | decide +kernel | omega) rfl ?_
      | refine G_neq_t rfl rfl (by first | decide +kernel | omega | assumption) rfl ?_
      | refine G_neq rfl rfl rfl ?_
      | refine G_leq_t rfl rfl (by omega) rfl ?_
      | refine G_leq_f rfl rfl (by omega) rfl ?_
      | refine G_leq rfl rfl rfl ?_
      | refine G_gtr_t rfl rfl (by omega) rfl ?_
      | refine G_gtr_f rfl rfl (by omega) rfl ?_
      | refine G_gtr rfl rfl rfl ?_
      | refine G_geq_t rfl rfl (by omega) rfl ?_
      | refine G_geq_f rfl rfl (by omega) rfl ?_
      | refine G_geq rfl rfl rfl ?_
      | refine G_sub rfl rfl rfl (by first | exact IntWalk.i64_in _ (by omega) | rfl) ?_
      | refine G_mul rfl rfl rfl (by first | exact IntWalk.i64_in _ (by omega) | rfl) ?_
      | refine G_xor64 rfl rfl rfl ?_
      | refine G_mul64 rfl rfl rfl ?_
      | refine G_or64 rfl rfl rfl ?_
      | refine G_and64 rfl rfl rfl ?_
      | refine G_add64 rfl rfl rfl ?_
      | refine G_sub64 rfl rfl rfl ?_
      | refine G_shr64 rfl rfl rfl rfl ?_
      | refine G_shl64 rfl rfl rfl rfl ?_
      | refine G_eqlB rfl rfl rfl ?_
      | refine G_neqB rfl rfl rfl ?_)
    | (refine Is_load ?_; first
      | refine G_load rfl rfl rfl ?_
      | refine G_load_cell rfl (by first | assumption | (apply_assumption; done) | fail) rfl ?_)
    | (refine Is_store ?_; refine G_store rfl rfl rfl rfl rfl ?_)
    | (refine Is_builtin ?_; first
      | refine G_len rfl rfl ?_)
    | (refine Is_nilCheck ?_; refine G_nilCheck rfl rfl ?_)
    | (refine Is_convert ?_; first
      | refine G_u64_int rfl rfl ?_
      | refine G_to_u64 rfl rfl ?_
      | refine G_conv _ rfl rfl (by first | exact IntWalk.i64_in _ (by omega) | rfl) ?_)
    | (refine Is_fieldAddr ?_; refine G_fieldOff rfl rfl ?_)
    | (refine Is_indexAddr ?_; first
      | refine G_indexA rfl rfl (by first | decide | omega) rfl ?_
      | refine G_indexP rfl rfl (by first | assumption | omega) rfl ?_)
    | (refine Is_un ?_; refine G_not rfl rfl ?_)
    | (refine Is_makeFunc ?_; refine G_makeFunc rfl rfl rfl ?_)
    | (refine Is_extract ?_; refine G_extract rfl rfl rfl ?_)
    | (refine Is_guard ?_; first
      | refine G_guard_yes (by rw [hops.eq]; rfl) rfl (by simp) ?_
      | refine G_guard_no (by rw [hops.eq]; rfl) rfl rfl rfl ?_)
    | (refine Is_pick ?_; first
      | refine G_pick_t rfl rfl rfl ?_
      | refine G_pick_f rfl rfl rfl ?_)
    | refine GC_cond_t rfl ?_
    | refine GC_cond_f rfl ?_
    | refine GC_seq ?_
    | refine GC_region (fun ops hops => ?_)
    | (refine G_nil ?_; try clear hops; try clear ops)
    | refine At_then ?_
    | refine GC_skip ?_
    | refine GC_block ?_
    | refine GC_exit ?_
    | refine GC_ret ?_
    | refine At_then_exit ?_
    | refine At_then_ret ?_
    | refine At_block ?_
    | refine At_block_ret ?_
    | refine At_block_hit ?_
    | refine At_block_miss rfl ?_
    | refine At_round_exit ?_
    | refine At_round_ret ?_)
          (refine X_done rfl ?_; first | exact List.Sublist.refl _ | exact List.sublist_append_right _ _ | exact List.Sublist.cons _ (List.Sublist.refl _))
        repeat
          apply DR_x rfl rfl rfl
          (· intro mm
             (repeat (first
    | (refine Is_move ?_; refine G_move rfl rfl ?_)
    | (refine Is_assign ?_; refine G_assign rfl rfl ?_)
    | (refine Is_bin ?_; first
      | refine G_lss_t rfl rfl (by omega) rfl ?_
      | refine G_lss_f rfl rfl (by omega) rfl ?_
      | refine G_lss rfl rfl rfl ?_
      | refine G_add rfl rfl rfl (by first | exact IntWalk.i64_in _ (by omega) | rfl) ?_
      | refine G_eql_t rfl rfl (by first | with_reducible rfl | assumption | decide +kernel | omega) rfl ?_
      | refine G_eql_f rfl rfl (by first | decide +kernel | omega | assumption) rfl ?_
      | refine G_eql rfl rfl rfl ?_
      | refine G_neq_f rfl rfl (by first | with_reducible rfl | assumption | decide +kernel | omega) rfl ?_
      | refine G_neq_t rfl rfl (by first | decide +kernel | omega | assumption) rfl ?_
      | refine G_neq rfl rfl rfl ?_
      | refine G_leq_t rfl rfl (by omega) rfl ?_
      | refine G_leq_f rfl rfl (by omega) rfl ?_
      | refine G_leq rfl rfl rfl ?_
      | refine G_gtr_t rfl rfl (by omega) rfl ?_
      | refine G_gtr_f rfl rfl (by omega) rfl ?_
      | refine G_gtr rfl rfl rfl ?_
      | refine G_geq_t rfl rfl (by omega) rfl ?_
      | refine G_geq_f rfl rfl (by omega) rfl ?_
      | refine G_geq rfl rfl rfl ?_
      | refine G_sub rfl rfl rfl (by first | exact IntWalk.i64_in _ (by omega) | rfl) ?_
      | refine G_mul rfl rfl rfl (by first | exact IntWalk.i64_in _ (by omega) | rfl) ?_
      | refine G_xor64 rfl rfl rfl ?_
      | refine G_mul64 rfl rfl rfl ?_
      | refine G_or64 rfl rfl rfl ?_
      | refine G_and64 rfl rfl rfl ?_
      | refine G_add64 rfl rfl rfl ?_
      | refine G_sub64 rfl rfl rfl ?_
      | refine G_shr64 rfl rfl rfl rfl ?_
      | refine G_shl64 rfl rfl rfl rfl ?_
      | refine G_eqlB rfl rfl rfl ?_
      | refine G_neqB rfl rfl rfl ?_)
    | (refine Is_load ?_; first
      | refine G_load rfl rfl rfl ?_
      | refine G_load_cell rfl (by first | assumption | (apply_assumption; done) | fail) rfl ?_)
    | (refine Is_store ?_; refine G_store rfl rfl rfl rfl rfl ?_)
    | (refine Is_builtin ?_; first
      | refine G_len rfl rfl ?_)
    | (refine Is_nilCheck ?_; refine G_nilCheck rfl rfl ?_)
    | (refine Is_convert ?_; first
      | refine G_u64_int rfl rfl ?_
      | refine G_to_u64 rfl rfl ?_
      | refine G_conv _ rfl rfl (by first | exact IntWalk.i64_in _ (by omega) | rfl) ?_)
    | (refine Is_fieldAddr ?_; refine G_fieldOff rfl rfl ?_)
    | (refine Is_indexAddr ?_; first
      | refine G_indexA rfl rfl (by first | decide | omega) rfl ?_
      | refine G_indexP rfl rfl (by first | assumption | omega) rfl ?_)
    | (refine Is_un ?_; refine G_not rfl rfl ?_)
    | (refine Is_makeFunc ?_; refine G_makeFunc rfl rfl rfl ?_)
    | (refine Is_extract ?_; refine G_extract rfl rfl rfl ?_)
    | (refine Is_guard ?_; first
      | refine G_guard_yes (by rw [hops.eq]; rfl) rfl (by simp) ?_
      | refine G_guard_no (by rw [hops.eq]; rfl) rfl rfl rfl ?_)
    | (refine Is_pick ?_; first
      | refine G_pick_t rfl rfl rfl ?_
      | refine G_pick_f rfl rfl rfl ?_)
    | refine GC_cond_t rfl ?_
    | refine GC_cond_f rfl ?_
    | refine GC_seq ?_
    | refine GC_region (fun ops hops => ?_)
    | (refine G_nil ?_; try clear hops; try clear ops)
    | refine At_then ?_
    | refine GC_skip ?_
    | refine GC_block ?_
    | refine GC_exit ?_
    | refine GC_ret ?_
    | refine At_then_exit ?_
    | refine At_then_ret ?_
    | refine At_block ?_
    | refine At_block_ret ?_
    | refine At_block_hit ?_
    | refine At_block_miss rfl ?_
    | refine At_round_exit ?_
    | refine At_round_ret ?_))
             exact X_done rfl (List.Sublist.refl _))
        rw [decs (nat_eqq.trans ((hl' ▸ digW_set _ l bl i hil x hxb : digB _ (l.map (BitVec.ofInt 64)) = digB _ (l'.map (BitVec.ofInt 64)) ↔ l[i] = x).trans (by rw [hxi]) : _ ↔ l[i] = l'[i]))]
        repeat
          apply DR_x rfl rfl rfl
          (· intro mm
             (repeat (first
    | (refine Is_move ?_; refine G_move rfl rfl ?_)
    | (refine Is_assign ?_; refine G_assign rfl rfl ?_)
    | (refine Is_bin ?_; first
      | refine G_lss_t rfl rfl (by omega) rfl ?_
      | refine G_lss_f rfl rfl (by omega) rfl ?_
      | refine G_lss rfl rfl rfl ?_
      | refine G_add rfl rfl rfl (by first | exact IntWalk.i64_in _ (by omega) | rfl) ?_
      | refine G_eql_t rfl rfl (by first | with_reducible rfl | assumption | decide +kernel | omega) rfl ?_
      | refine G_eql_f rfl rfl (by first | decide +kernel | omega | assumption) rfl ?_
      | refine G_eql rfl rfl rfl ?_
      | refine G_neq_f rfl rfl (by first | with_reducible rfl | assumption | decide +kernel | omega) rfl ?_
      | refine G_neq_t rfl rfl (by first | decide +kernel | omega | assumption) rfl ?_
      | refine G_neq rfl rfl rfl ?_
      | refine G_leq_t rfl rfl (by omega) rfl ?_
      | refine G_leq_f rfl rfl (by omega) rfl ?_
      | refine G_leq rfl rfl rfl ?_
      | refine G_gtr_t rfl rfl (by omega) rfl ?_
      | refine G_gtr_f rfl rfl (by omega) rfl ?_
      | refine G_gtr rfl rfl rfl ?_
      | refine G_geq_t rfl rfl (by omega) rfl ?_
      | refine G_geq_f rfl rfl (by omega) rfl ?_
      | refine G_geq rfl rfl rfl ?_
      | refine G_sub rfl rfl rfl (by first | exact IntWalk.i64_in _ (by omega) | rfl) ?_
      | refine G_mul rfl rfl rfl (by first | exact IntWalk.i64_in _ (by omega) | rfl) ?_
      | refine G_xor64 rfl rfl rfl ?_
      | refine G_mul64 rfl rfl rfl ?_
      | refine G_or64 rfl rfl rfl ?_
      | refine G_and64 rfl rfl rfl ?_
      | refine G_add64 rfl rfl rfl ?_
      | refine G_sub64 rfl rfl rfl ?_
      | refine G_shr64 rfl rfl rfl rfl ?_
      | refine G_shl64 rfl rfl rfl rfl ?_
      | refine G_eqlB rfl rfl rfl ?_
      | refine G_neqB rfl rfl rfl ?_)
    | (refine Is_load ?_; first
      | refine G_load rfl rfl rfl ?_
      | refine G_load_cell rfl (by first | assumption | (apply_assumption; done) | fail) rfl ?_)
    | (refine Is_store ?_; refine G_store rfl rfl rfl rfl rfl ?_)
    | (refine Is_builtin ?_; first
      | refine G_len rfl rfl ?_)
    | (refine Is_nilCheck ?_; refine G_nilCheck rfl rfl ?_)
    | (refine Is_convert ?_; first
      | refine G_u64_int rfl rfl ?_
      | refine G_to_u64 rfl rfl ?_
      | refine G_conv _ rfl rfl (by first | exact IntWalk.i64_in _ (by omega) | rfl) ?_)
    | (refine Is_fieldAddr ?_; refine G_fieldOff rfl rfl ?_)
    | (refine Is_indexAddr ?_; first
      | refine G_indexA rfl rfl (by first | decide | omega) rfl ?_
      | refine G_indexP rfl rfl (by first | assumption | omega) rfl ?_)
    | (refine Is_un ?_; refine G_not rfl rfl ?_)
    | (refine Is_makeFunc ?_; refine G_makeFunc rfl rfl rfl ?_)
    | (refine Is_extract ?_; refine G_extract rfl rfl rfl ?_)
    | (refine Is_guard ?_; first
      | refine G_guard_yes (by rw [hops.eq]; rfl) rfl (by simp) ?_
      | refine G_guard_no (by rw [hops.eq]; rfl) rfl rfl rfl ?_)
    | (refine Is_pick ?_; first
      | refine G_pick_t rfl rfl rfl ?_
      | refine G_pick_f rfl rfl rfl ?_)
    | refine GC_cond_t rfl ?_
    | refine GC_cond_f rfl ?_
    | refine GC_seq ?_
    | refine GC_region (fun ops hops => ?_)
    | (refine G_nil ?_; try clear hops; try clear ops)
    | refine At_then ?_
    | refine GC_skip ?_
    | refine GC_block ?_
    | refine GC_exit ?_
    | refine GC_ret ?_
    | refine At_then_exit ?_
    | refine At_then_ret ?_
    | refine At_block ?_
    | refine At_block_ret ?_
    | refine At_block_hit ?_
    | refine At_block_miss rfl ?_
    | refine At_round_exit ?_
    | refine At_round_ret ?_))
             exact X_done rfl (List.Sublist.refl _))
        refine DR_nil rfl ?_
        repeat (first
    | (refine Is_move ?_; refine G_move rfl rfl ?_)
    | (refine Is_assign ?_; refine G_assign rfl rfl ?_)
    | (refine Is_bin ?_; first
      | refine G_lss_t rfl rfl (by omega) rfl ?_
      | refine G_lss_f rfl rfl (by omega) rfl ?_
      | refine G_lss rfl rfl rfl ?_
      | refine G_add rfl rfl rfl (by first | exact IntWalk.i64_in _ (by omega) | rfl) ?_
      | refine G_eql_t rfl rfl (by first | with_reducible rfl | assumption | decide +kernel | omega) rfl ?_
      | refine G_eql_f rfl rfl (by first | decide +kernel | omega | assumption) rfl ?_
      | refine G_eql rfl rfl rfl ?_
      | refine G_neq_f rfl rfl (by first | with_reducible rfl | assumption | decide +kernel | omega) rfl ?_
      | refine G_neq_t rfl rfl (by first | decide +kernel | omega | assumption) rfl ?_
      | refine G_neq rfl rfl rfl ?_
      | refine G_leq_t rfl rfl (by omega) rfl ?_
      | refine G_leq_f rfl rfl (by omega) rfl ?_
      | refine G_leq rfl rfl rfl ?_
      | refine G_gtr_t rfl rfl (by omega) rfl ?_
      | refine G_gtr_f rfl rfl (by omega) rfl ?_
      | refine G_gtr rfl rfl rfl ?_
      | refine G_geq_t rfl rfl (by omega) rfl ?_
      | refine G_geq_f rfl rfl (by omega) rfl ?_
      | refine G_geq rfl rfl rfl ?_
      | refine G_sub rfl rfl rfl (by first | exact IntWalk.i64_in _ (by omega) | rfl) ?_
      | refine G_mul rfl rfl rfl (by first | exact IntWalk.i64_in _ (by omega) | rfl) ?_
      | refine G_xor64 rfl rfl rfl ?_
      | refine G_mul64 rfl rfl rfl ?_
      | refine G_or64 rfl rfl rfl ?_
      | refine G_and64 rfl rfl rfl ?_
      | refine G_add64 rfl rfl rfl ?_
      | refine G_sub64 rfl rfl rfl ?_
      | refine G_shr64 rfl rfl rfl rfl ?_
      | refine G_shl64 rfl rfl rfl rfl ?_
      | refine G_eqlB rfl rfl rfl ?_
      | refine G_neqB rfl rfl rfl ?_)
    | (refine Is_load ?_; first
      | refine G_load rfl rfl rfl ?_
      | refine G_load_cell rfl (by first | assumption | (apply_assumption; done) | fail) rfl ?_)
    | (refine Is_store ?_; refine G_store rfl rfl rfl rfl rfl ?_)
    | (refine Is_builtin ?_; first
      | refine G_len rfl rfl ?_)
    | (refine Is_nilCheck ?_; refine G_nilCheck rfl rfl ?_)
    | (refine Is_convert ?_; first
      | refine G_u64_int rfl rfl ?_
      | refine G_to_u64 rfl rfl ?_
      | refine G_conv _ rfl rfl (by first | exact IntWalk.i64_in _ (by omega) | rfl) ?_)
    | (refine Is_fieldAddr ?_; refine G_fieldOff rfl rfl ?_)
    | (refine Is_indexAddr ?_; first
      | refine G_indexA rfl rfl (by first | decide | omega) rfl ?_
      | refine G_indexP rfl rfl (by first | assumption | omega) rfl ?_)
    | (refine Is_un ?_; refine G_not rfl rfl ?_)
    | (refine Is_makeFunc ?_; refine G_makeFunc rfl rfl rfl ?_)
    | (refine Is_extract ?_; refine G_extract rfl rfl rfl ?_)
    | (refine Is_guard ?_; first
      | refine G_guard_yes (by rw [hops.eq]; rfl) rfl (by simp) ?_
      | refine G_guard_no (by rw [hops.eq]; rfl) rfl rfl rfl ?_)
    | (refine Is_pick ?_; first
      | refine G_pick_t rfl rfl rfl ?_
      | refine G_pick_f rfl rfl rfl ?_)
    | refine GC_cond_t rfl ?_
    | refine GC_cond_f rfl ?_
    | refine GC_seq ?_
    | refine GC_region (fun ops hops => ?_)
    | (refine G_nil ?_; try clear hops; try clear ops)
    | refine At_then ?_
    | refine GC_skip ?_
    | refine GC_block ?_
    | refine GC_exit ?_
    | refine GC_ret ?_
    | refine At_then_exit ?_
    | refine At_then_ret ?_
    | refine At_block ?_
    | refine At_block_ret ?_
    | refine At_block_hit ?_
    | refine At_block_miss rfl ?_
    | refine At_round_exit ?_
    | refine At_round_ret ?_)
        exact At_cut ⟨rfl, rfl, rfl, trivial⟩ (by repeat (first | exact List.Sublist.slnil | apply List.Sublist.cons_cons | apply List.Sublist.cons))
    · repeat (first
    | (refine Is_move ?_; refine G_move rfl rfl ?_)
    | (refine Is_assign ?_; refine G_assign rfl rfl ?_)
    | (refine Is_bin ?_; first
      | refine G_lss_t rfl rfl (by omega) rfl ?_
      | refine G_lss_f rfl rfl (by omega) rfl ?_
      | refine G_lss rfl rfl rfl ?_
      | refine G_add rfl rfl rfl (by first | exact IntWalk.i64_in _ (by omega) | rfl) ?_
      | refine G_eql_t rfl rfl (by first | with_reducible rfl | assumption | decide +kernel | omega) rfl ?_
      | refine G_eql_f rfl rfl (by first | decide +kernel | omega | assumption) rfl ?_
      | refine G_eql rfl rfl rfl ?_
      | refine G_neq_f rfl rfl (by first | with_reducible rfl | assumption | decide +kernel | omega) rfl ?_
      | refine G_neq_t rfl rfl (by first | decide +kernel | omega | assumption) rfl ?_
      | refine G_neq rfl rfl rfl ?_
      | refine G_leq_t rfl rfl (by omega) rfl ?_
      | refine G_leq_f rfl rfl (by omega) rfl ?_
      | refine G_leq rfl rfl rfl ?_
      | refine G_gtr_t rfl rfl (by omega) rfl ?_
      | refine G_gtr_f rfl rfl (by omega) rfl ?_
      | refine G_gtr rfl rfl rfl ?_
      | refine G_geq_t rfl rfl (by omega) rfl ?_
      | refine G_geq_f rfl rfl (by omega) rfl ?_
      | refine G_geq rfl rfl rfl ?_
      | refine G_sub rfl rfl rfl (by first | exact IntWalk.i64_in _ (by omega) | rfl) ?_
      | refine G_mul rfl rfl rfl (by first | exact IntWalk.i64_in _ (by omega) | rfl) ?_
      | refine G_xor64 rfl rfl rfl ?_
      | refine G_mul64 rfl rfl rfl ?_
      | refine G_or64 rfl rfl rfl ?_
      | refine G_and64 rfl rfl rfl ?_
      | refine G_add64 rfl rfl rfl ?_
      | refine G_sub64 rfl rfl rfl ?_
      | refine G_shr64 rfl rfl rfl rfl ?_
      | refine G_shl64 rfl rfl rfl rfl ?_
      | refine G_eqlB rfl rfl rfl ?_
      | refine G_neqB rfl rfl rfl ?_)
    | (refine Is_load ?_; first
      | refine G_load rfl rfl rfl ?_
      | refine G_load_cell rfl (by first | assumption | (apply_assumption; done) | fail) rfl ?_)
    | (refine Is_store ?_; refine G_store rfl rfl rfl rfl rfl ?_)
    | (refine Is_builtin ?_; first
      | refine G_len rfl rfl ?_)
    | (refine Is_nilCheck ?_; refine G_nilCheck rfl rfl ?_)
    | (refine Is_convert ?_; first
      | refine G_u64_int rfl rfl ?_
      | refine G_to_u64 rfl rfl ?_
      | refine G_conv _ rfl rfl (by first | exact IntWalk.i64_in _ (by omega) | rfl) ?_)
    | (refine Is_fieldAddr ?_; refine G_fieldOff rfl rfl ?_)
    | (refine Is_indexAddr ?_; first
      | refine G_indexA rfl rfl (by first | decide | omega) rfl ?_
      | refine G_indexP rfl rfl (by first | assumption | omega) rfl ?_)
    | (refine Is_un ?_; refine G_not rfl rfl ?_)
    | (refine Is_makeFunc ?_; refine G_makeFunc rfl rfl rfl ?_)
    | (refine Is_extract ?_; refine G_extract rfl rfl rfl ?_)
    | (refine Is_guard ?_; first
      | refine G_guard_yes (by rw [hops.eq]; rfl) rfl (by simp) ?_
      | refine G_guard_no (by rw [hops.eq]; rfl) rfl rfl rfl ?_)
    | (refine Is_pick ?_; first
      | refine G_pick_t rfl rfl rfl ?_
      | refine G_pick_f rfl rfl rfl ?_)
    | refine GC_cond_t rfl ?_
    | refine GC_cond_f rfl ?_
    | refine GC_seq ?_
    | refine GC_region (fun ops hops => ?_)
    | (refine G_nil ?_; try clear hops; try clear ops)
    | refine At_then ?_
    | refine GC_skip ?_
    | refine GC_block ?_
    | refine GC_exit ?_
    | refine GC_ret ?_
    | refine At_then_exit ?_
    | refine At_then_ret ?_
    | refine At_block ?_
    | refine At_block_ret ?_
    | refine At_block_hit ?_
    | refine At_block_miss rfl ?_
    | refine At_round_exit ?_
    | refine At_round_ret ?_)
      exact At_cut ⟨rfl, rfl, rfl, trivial⟩ (by simp)
  · repeat (first
    | (refine Is_move ?_; refine G_move rfl rfl ?_)
    | (refine Is_assign ?_; refine G_assign rfl rfl ?_)
    | (refine Is_bin ?_; first
      | refine G_lss_t rfl rfl (by omega) rfl ?_
      | refine G_lss_f rfl rfl (by omega) rfl ?_
      | refine G_lss rfl rfl rfl ?_
      | refine G_add rfl rfl rfl (by first | exact IntWalk.i64_in _ (by omega) | rfl) ?_
      | refine G_eql_t rfl rfl (by first | with_reducible rfl | assumption | decide +kernel | omega) rfl ?_
      | refine G_eql_f rfl rfl (by first | decide +kernel | omega | assumption) rfl ?_
      | refine G_eql rfl rfl rfl ?_
      | refine G_neq_f rfl rfl (by first | with_reducible rfl | assumption | decide +kernel | omega) rfl ?_
      | refine G_neq_t rfl rfl (by first | decide +kernel | omega | assumption) rfl ?_
      | refine G_neq rfl rfl rfl ?_
      | refine G_leq_t rfl rfl (by omega) rfl ?_
      | refine G_leq_f rfl rfl (by omega) rfl ?_
      | refine G_leq rfl rfl rfl ?_
      | refine G_gtr_t rfl rfl (by omega) rfl ?_
      | refine G_gtr_f rfl rfl (by omega) rfl ?_
      | refine G_gtr rfl rfl rfl ?_
      | refine G_geq_t rfl rfl (by omega) rfl ?_
      | refine G_geq_f rfl rfl (by omega) rfl ?_
      | refine G_geq rfl rfl rfl ?_
      | refine G_sub rfl rfl rfl (by first | exact IntWalk.i64_in _ (by omega) | rfl) ?_
      | refine G_mul rfl rfl rfl (by first | exact IntWalk.i64_in _ (by omega) | rfl) ?_
      | refine G_xor64 rfl rfl rfl ?_
      | refine G_mul64 rfl rfl rfl ?_
      | refine G_or64 rfl rfl rfl ?_
      | refine G_and64 rfl rfl rfl ?_
      | refine G_add64 rfl rfl rfl ?_
      | refine G_sub64 rfl rfl rfl ?_
      | refine G_shr64 rfl rfl rfl rfl ?_
      | refine G_shl64 rfl rfl rfl rfl ?_
      | refine G_eqlB rfl rfl rfl ?_
      | refine G_neqB rfl rfl rfl ?_)
    | (refine Is_load ?_; first
      | refine G_load rfl rfl rfl ?_
      | refine G_load_cell rfl (by first | assumption | (apply_assumption; done) | fail) rfl ?_)
    | (refine Is_store ?_; refine G_store rfl rfl rfl rfl rfl ?_)
    | (refine Is_builtin ?_; first
      | refine G_len rfl rfl ?_)
    | (refine Is_nilCheck ?_; refine G_nilCheck rfl rfl ?_)
    | (refine Is_convert ?_; first
      | refine G_u64_int rfl rfl ?_
      | refine G_to_u64 rfl rfl ?_
      | refine G_conv _ rfl rfl (by first | exact IntWalk.i64_in _ (by omega) | rfl) ?_)
    | (refine Is_fieldAddr ?_; refine G_fieldOff rfl rfl ?_)
    | (refine Is_indexAddr ?_; first
      | refine G_indexA rfl rfl (by first | decide | omega) rfl ?_
      | refine G_indexP rfl rfl (by first | assumption | omega) rfl ?_)
    | (refine Is_un ?_; refine G_not rfl rfl ?_)
    | (refine Is_makeFunc ?_; refine G_makeFunc rfl rfl rfl ?_)
    | (refine Is_extract ?_; refine G_extract rfl rfl rfl ?_)
    | (refine Is_guard ?_; first
      | refine G_guard_yes (by rw [hops.eq]; rfl) rfl (by simp) ?_
      | refine G_guard_no (by rw [hops.eq]; rfl) rfl rfl rfl ?_)
    | (refine Is_pick ?_; first
      | refine G_pick_t rfl rfl rfl ?_
      | refine G_pick_f rfl rfl rfl ?_)
    | refine GC_cond_t rfl ?_
    | refine GC_cond_f rfl ?_
    | refine GC_seq ?_
    | refine GC_region (fun ops hops => ?_)
    | (refine G_nil ?_; try clear hops; try clear ops)
    | refine At_then ?_
    | refine GC_skip ?_
    | refine GC_block ?_
    | refine GC_exit ?_
    | refine GC_ret ?_
    | refine At_then_exit ?_
    | refine At_then_ret ?_
    | refine At_block ?_
    | refine At_block_ret ?_
    | refine At_block_hit ?_
    | refine At_block_miss rfl ?_
    | refine At_round_exit ?_
    | refine At_round_ret ?_)
    refine GC_cut [(7, .bool true)] [] ?_ ?_
    · refine GC_cond_dec rfl (fun hpos => ?_) (fun hneg => ?_)
      · obtain ⟨ad, rfl⟩ : ∃ ad, A' = some ad := by
          obtain ⟨A1, n1, c1, e1, _, _, _, h4⟩ := hB.rd
          cases e1
          obtain ⟨ad, e2, _⟩ := h4 (by simp; omega)
          exact ⟨ad, e2⟩
        obtain ⟨i, hi⟩ : ∃ i : Nat, i = (z3 % BitVec.ofNat 64 bs.length).toNat := ⟨_, rfl⟩
        have hn64 : (BitVec.ofNat 64 bs.length).toNat = bs.length := by simp; omega
        have hil : i < bs.length := by rw [hi, BitVec.toNat_umod, hn64]; exact Nat.mod_lt _ (by omega)
        repeat (first
    | (refine Is_move ?_; refine G_move rfl rfl ?_)
    | (refine Is_assign ?_; refine G_assign rfl rfl ?_)
    | (refine Is_bin ?_; first
      | refine G_lss_t rfl rfl (by omega) rfl ?_
      | refine G_lss_f rfl rfl (by omega) rfl ?_
      | refine G_lss rfl rfl rfl ?_
      | refine G_add rfl rfl rfl (by first | exact IntWalk.i64_in _ (by omega) | rfl) ?_
      | refine G_eql_t rfl rfl (by first | with_reducible rfl | assumption | decide +kernel | omega) rfl ?_
      | refine G_eql_f rfl rfl (by first | decide +kernel | omega | assumption) rfl ?_
      | refine G_eql rfl rfl rfl ?_
      | refine G_neq_f rfl rfl (by first | with_reducible rfl | assumption | decide +kernel | omega) rfl ?_
      | refine G_neq_t rfl rfl (by first | decide +kernel | omega | assumption) rfl ?_
      | refine G_neq rfl rfl rfl ?_
      | refine G_leq_t rfl rfl (by omega) rfl ?_
      | refine G_leq_f rfl rfl (by omega) rfl ?_
      | refine G_leq rfl rfl rfl ?_
      | refine G_gtr_t rfl rfl (by omega) rfl ?_
      | refine G_gtr_f rfl rfl (by omega) rfl ?_
      | refine G_gtr rfl rfl rfl ?_
      | refine G_geq_t rfl rfl (by omega) rfl ?_
      | refine G_geq_f rfl rfl (by omega) rfl ?_
      | refine G_geq rfl rfl rfl ?_
      | refine G_sub rfl rfl rfl (by first | exact IntWalk.i64_in _ (by omega) | rfl) ?_
      | refine G_mul rfl rfl rfl (by first | exact IntWalk.i64_in _ (by omega) | rfl) ?_
      | refine G_xor64 rfl rfl rfl ?_
      | refine G_mul64 rfl rfl rfl ?_
      | refine G_or64 rfl rfl rfl ?_
      | refine G_and64 rfl rfl rfl ?_
      | refine G_add64 rfl rfl rfl ?_
      | refine G_sub64 rfl rfl rfl ?_
      | refine G_shr64 rfl rfl rfl rfl ?_
      | refine G_shl64 rfl rfl rfl rfl ?_
      | refine G_eqlB rfl rfl rfl ?_
      | refine G_neqB rfl rfl rfl ?_)
    | (refine Is_load ?_; first
      | refine G_load rfl rfl rfl ?_
      | refine G_load_cell rfl (by first | assumption | (apply_assumption; done) | fail) rfl ?_)
    | (refine Is_store ?_; refine G_store rfl rfl rfl rfl rfl ?_)
    | (refine Is_builtin ?_; first
      | refine G_len rfl rfl ?_)
    | (refine Is_nilCheck ?_; refine G_nilCheck rfl rfl ?_)
    | (refine Is_convert ?_; first
      | refine G_u64_int rfl rfl ?_
      | refine G_to_u64 rfl rfl ?_
      | refine G_conv _ rfl rfl (by first | exact IntWalk.i64_in _ (by omega) | rfl) ?_)
    | (refine Is_fieldAddr ?_; refine G_fieldOff rfl rfl ?_)
    | (refine Is_indexAddr ?_; first
      | refine G_indexA rfl rfl (by first | decide | omega) rfl ?_
      | refine G_indexP rfl rfl (by first | assumption | omega) rfl ?_)
    | (refine Is_un ?_; refine G_not rfl rfl ?_)
    | (refine Is_makeFunc ?_; refine G_makeFunc rfl rfl rfl ?_)
    | (refine Is_extract ?_; refine G_extract rfl rfl rfl ?_)
    | (refine Is_guard ?_; first
      | refine G_guard_yes (by rw [hops.eq]; rfl) rfl (by simp) ?_
      | refine G_guard_no (by rw [hops.eq]; rfl) rfl rfl rfl ?_)
    | (refine Is_pick ?_; first
      | refine G_pick_t rfl rfl rfl ?_
      | refine G_pick_f rfl rfl rfl ?_)
    | refine GC_cond_t rfl ?_
    | refine GC_cond_f rfl ?_
    | refine GC_seq ?_
    | refine GC_region (fun ops hops => ?_)
    | (refine G_nil ?_; try clear hops; try clear ops)
    | refine At_then ?_
    | refine GC_skip ?_
    | refine GC_block ?_
    | refine GC_exit ?_
    | refine GC_ret ?_
    | refine At_then_exit ?_
    | refine At_then_ret ?_
    | refine At_block ?_
    | refine At_block_ret ?_
    | refine At_block_hit ?_
    | refine At_block_miss rfl ?_
    | refine At_round_exit ?_
    | refine At_round_ret ?_)
        refine G_rem64 rfl rfl rfl rfl (by omega) rfl ?_
        refine G_conv (i : Int) rfl rfl (by rw [← hi]; exact IntWalk.i64_in _ (by omega)) ?_
        repeat (first
    | (refine Is_move ?_; refine G_move rfl rfl ?_)
    | (refine Is_assign ?_; refine G_assign rfl rfl ?_)
    | (refine Is_bin ?_; first
      | refine G_lss_t rfl rfl (by omega) rfl ?_
      | refine G_lss_f rfl rfl (by omega) rfl ?_
      | refine G_lss rfl rfl rfl ?_
      | refine G_add rfl rfl rfl (by first | exact IntWalk.i64_in _ (by omega) | rfl) ?_
      | refine G_eql_t rfl rfl (by first | with_reducible rfl | assumption | decide +kernel | omega) rfl ?_
      | refine G_eql_f rfl rfl (by first | decide +kernel | omega | assumption) rfl ?_
      | refine G_eql rfl rfl rfl ?_
      | refine G_neq_f rfl rfl (by first | with_reducible rfl | assumption | decide +kernel | omega) rfl ?_
      | refine G_neq_t rfl rfl (by first | decide +kernel | omega | assumption) rfl ?_
      | refine G_neq rfl rfl rfl ?_
      | refine G_leq_t rfl rfl (by omega) rfl ?_
      | refine G_leq_f rfl rfl (by omega) rfl ?_
      | refine G_leq rfl rfl rfl ?_
      | refine G_gtr_t rfl rfl (by omega) rfl ?_
      | refine G_gtr_f rfl rfl (by omega) rfl ?_
      | refine G_gtr rfl rfl rfl ?_
      | refine G_geq_t rfl rfl (by omega) rfl ?_
      | refine G_geq_f rfl rfl (by omega) rfl ?_
      | refine G_geq rfl rfl rfl ?_
      | refine G_sub rfl rfl rfl (by first | exact IntWalk.i64_in _ (by omega) | rfl) ?_
      | refine G_mul rfl rfl rfl (by first | exact IntWalk.i64_in _ (by omega) | rfl) ?_
      | refine G_xor64 rfl rfl rfl ?_
      | refine G_mul64 rfl rfl rfl ?_
      | refine G_or64 rfl rfl rfl ?_
      | refine G_and64 rfl rfl rfl ?_
      | refine G_add64 rfl rfl rfl ?_
      | refine G_sub64 rfl rfl rfl ?_
      | refine G_shr64 rfl rfl rfl rfl ?_
      | refine G_shl64 rfl rfl rfl rfl ?_
      | refine G_eqlB rfl rfl rfl ?_
      | refine G_neqB rfl rfl rfl ?_)
    | (refine Is_load ?_; first
      | refine G_load rfl rfl rfl ?_
      | refine G_load_cell rfl (by first | assumption | (apply_assumption; done) | fail) rfl ?_)
    | (refine Is_store ?_; refine G_store rfl rfl rfl rfl rfl ?_)
    | (refine Is_builtin ?_; first
      | refine G_len rfl rfl ?_)
    | (refine Is_nilCheck ?_; refine G_nilCheck rfl rfl ?_)
    | (refine Is_convert ?_; first
      | refine G_u64_int rfl rfl ?_
      | refine G_to_u64 rfl rfl ?_
      | refine G_conv _ rfl rfl (by first | exact IntWalk.i64_in _ (by omega) | rfl) ?_)
    | (refine Is_fieldAddr ?_; refine G_fieldOff rfl rfl ?_)
    | (refine Is_indexAddr ?_; first
      | refine G_indexA rfl rfl (by first | decide | omega) rfl ?_
      | refine G_indexP rfl rfl (by first | assumption | omega) rfl ?_)
    | (refine Is_un ?_; refine G_not rfl rfl ?_)
    | (refine Is_makeFunc ?_; refine G_makeFunc rfl rfl rfl ?_)
    | (refine Is_extract ?_; refine G_extract rfl rfl rfl ?_)
    | (refine Is_guard ?_; first
      | refine G_guard_yes (by rw [hops.eq]; rfl) rfl (by simp) ?_
      | refine G_guard_no (by rw [hops.eq]; rfl) rfl rfl rfl ?_)
    | (refine Is_pick ?_; first
      | refine G_pick_t rfl rfl rfl ?_
      | refine G_pick_f rfl rfl rfl ?_)
    | refine GC_cond_t rfl ?_
    | refine GC_cond_f rfl ?_
    | refine GC_seq ?_
    | refine GC_region (fun ops hops => ?_)
    | (refine G_nil ?_; try clear hops; try clear ops)
    | refine At_then ?_
    | refine GC_skip ?_
    | refine GC_block ?_
    | refine GC_exit ?_
    | refine GC_ret ?_
    | refine At_then_exit ?_
    | refine At_then_ret ?_
    | refine At_block ?_
    | refine At_block_ret ?_
    | refine At_block_hit ?_
    | refine At_block_miss rfl ?_
    | refine At_round_exit ?_
    | refine At_round_ret ?_)
        (refine G_buildSlice   rfl rfl rfl rfl rfl rfl ?_; intro g1)
        refine G_own (by repeat (first | exact Take.here | apply Take.there)) (sz := 1) (n := 0) rfl (by simp [maxLen]) ?_
        repeat (first
    | (refine Is_move ?_; refine G_move rfl rfl ?_)
    | (refine Is_assign ?_; refine G_assign rfl rfl ?_)
    | (refine Is_bin ?_; first
      | refine G_lss_t rfl rfl (by omega) rfl ?_
      | refine G_lss_f rfl rfl (by omega) rfl ?_
      | refine G_lss rfl rfl rfl ?_
      | refine G_add rfl rfl rfl (by first | exact IntWalk.i64_in _ (by omega) | rfl) ?_
      | refine G_eql_t rfl rfl (by first | with_reducible rfl | assumption | decide +kernel | omega) rfl ?_
      | refine G_eql_f rfl rfl (by first | decide +kernel | omega | assumption) rfl ?_
      | refine G_eql rfl rfl rfl ?_
      | refine G_neq_f rfl rfl (by first | with_reducible rfl | assumption | decide +kernel | omega) rfl ?_
      | refine G_neq_t rfl rfl (by first | decide +kernel | omega | assumption) rfl ?_
      | refine G_neq rfl rfl rfl ?_
      | refine G_leq_t rfl rfl (by omega) rfl ?_
      | refine G_leq_f rfl rfl (by omega) rfl ?_
      | refine G_leq rfl rfl rfl ?_
      | refine G_gtr_t rfl rfl (by omega) rfl ?_
      | refine G_gtr_f rfl rfl (by omega) rfl ?_
      | refine G_gtr rfl rfl rfl ?_
      | refine G_geq_t rfl rfl (by omega) rfl ?_
      | refine G_geq_f rfl rfl (by omega) rfl ?_
      | refine G_geq rfl rfl rfl ?_
      | refine G_sub rfl rfl rfl (by first | exact IntWalk.i64_in _ (by omega) | rfl) ?_
      | refine G_mul rfl rfl rfl (by first | exact IntWalk.i64_in _ (by omega) | rfl) ?_
      | refine G_xor64 rfl rfl rfl ?_
      | refine G_mul64 rfl rfl rfl ?_
      | refine G_or64 rfl rfl rfl ?_
      | refine G_and64 rfl rfl rfl ?_
      | refine G_add64 rfl rfl rfl ?_
      | refine G_sub64 rfl rfl rfl ?_
      | refine G_shr64 rfl rfl rfl rfl ?_
      | refine G_shl64 rfl rfl rfl rfl ?_
      | refine G_eqlB rfl rfl rfl ?_
      | refine G_neqB rfl rfl rfl ?_)
    | (refine Is_load ?_; first
      | refine G_load rfl rfl rfl ?_
      | refine G_load_cell rfl (by first | assumption | (apply_assumption; done) | fail) rfl ?_)
    | (refine Is_store ?_; refine G_store rfl rfl rfl rfl rfl ?_)
    | (refine Is_builtin ?_; first
      | refine G_len rfl rfl ?_)
    | (refine Is_nilCheck ?_; refine G_nilCheck rfl rfl ?_)
    | (refine Is_convert ?_; first
      | refine G_u64_int rfl rfl ?_
      | refine G_to_u64 rfl rfl ?_
      | refine G_conv _ rfl rfl (by first | exact IntWalk.i64_in _ (by omega) | rfl) ?_)
    | (refine Is_fieldAddr ?_; refine G_fieldOff rfl rfl ?_)
    | (refine Is_indexAddr ?_; first
      | refine G_indexA rfl rfl (by first | decide | omega) rfl ?_
      | refine G_indexP rfl rfl (by first | assumption | omega) rfl ?_)
    | (refine Is_un ?_; refine G_not rfl rfl ?_)
    | (refine Is_makeFunc ?_; refine G_makeFunc rfl rfl rfl ?_)
    | (refine Is_extract ?_; refine G_extract rfl rfl rfl ?_)
    | (refine Is_guard ?_; first
      | refine G_guard_yes (by rw [hops.eq]; rfl) rfl (by simp) ?_
      | refine G_guard_no (by rw [hops.eq]; rfl) rfl rfl rfl ?_)
    | (refine Is_pick ?_; first
      | refine G_pick_t rfl rfl rfl ?_
      | refine G_pick_f rfl rfl rfl ?_)
    | refine GC_cond_t rfl ?_
    | refine GC_cond_f rfl ?_
    | refine GC_seq ?_
    | refine GC_region (fun ops hops => ?_)
    | (refine G_nil ?_; try clear hops; try clear ops)
    | refine At_then ?_
    | refine GC_skip ?_
    | refine GC_block ?_
    | refine GC_exit ?_
    | refine GC_ret ?_
    | refine At_then_exit ?_
    | refine At_then_ret ?_
    | refine At_block ?_
    | refine At_block_ret ?_
    | refine At_block_hit ?_
    | refine At_block_miss rfl ?_
    | refine At_round_exit ?_
    | refine At_round_ret ?_)
        refine G_append1 (k := bs.length) (ys := bs.map B8) rfl rfl (by repeat (first | exact Take.here | apply Take.there)) hB.now (by simp) (by simp [Value.oneCell']) (by omega) rfl ?_
        intro v1
        repeat (first
    | (refine Is_move ?_; refine G_move rfl rfl ?_)
    | (refine Is_assign ?_; refine G_assign rfl rfl ?_)
    | (refine Is_bin ?_; first
      | refine G_lss_t rfl rfl (by omega) rfl ?_
      | refine G_lss_f rfl rfl (by omega) rfl ?_
      | refine G_lss rfl rfl rfl ?_
      | refine G_add rfl rfl rfl (by first | exact IntWalk.i64_in _ (by omega) | rfl) ?_
      | refine G_eql_t rfl rfl (by first | with_reducible rfl | assumption | decide +kernel | omega) rfl ?_
      | refine G_eql_f rfl rfl (by first | decide +kernel | omega | assumption) rfl ?_
      | refine G_eql rfl rfl rfl ?_
      | refine G_neq_f rfl rfl (by first | with_reducible rfl | assumption | decide +kernel | omega) rfl ?_
      | refine G_neq_t rfl rfl (by first | decide +kernel | omega | assumption) rfl ?_
      | refine G_neq rfl rfl rfl ?_
      | refine G_leq_t rfl rfl (by omega) rfl ?_
      | refine G_leq_f rfl rfl (by omega) rfl ?_
      | refine G_leq rfl rfl rfl ?_
      | refine G_gtr_t rfl rfl (by omega) rfl ?_
      | refine G_gtr_f rfl rfl (by omega) rfl ?_
      | refine G_gtr rfl rfl rfl ?_
      | refine G_geq_t rfl rfl (by omega) rfl ?_
      | refine G_geq_f rfl rfl (by omega) rfl ?_
      | refine G_geq rfl rfl rfl ?_
      | refine G_sub rfl rfl rfl (by first | exact IntWalk.i64_in _ (by omega) | rfl) ?_
      | refine G_mul rfl rfl rfl (by first | exact IntWalk.i64_in _ (by omega) | rfl) ?_
      | refine G_xor64 rfl rfl rfl ?_
      | refine G_mul64 rfl rfl rfl ?_
      | refine G_or64 rfl rfl rfl ?_
      | refine G_and64 rfl rfl rfl ?_
      | refine G_add64 rfl rfl rfl ?_
      | refine G_sub64 rfl rfl rfl ?_
      | refine G_shr64 rfl rfl rfl rfl ?_
      | refine G_shl64 rfl rfl rfl rfl ?_
      | refine G_eqlB rfl rfl rfl ?_
      | refine G_neqB rfl rfl rfl ?_)
    | (refine Is_load ?_; first
      | refine G_load rfl rfl rfl ?_
      | refine G_load_cell rfl (by first | assumption | (apply_assumption; done) | fail) rfl ?_)
    | (refine Is_store ?_; refine G_store rfl rfl rfl rfl rfl ?_)
    | (refine Is_builtin ?_; first
      | refine G_len rfl rfl ?_)
    | (refine Is_nilCheck ?_; refine G_nilCheck rfl rfl ?_)
    | (refine Is_convert ?_; first
      | refine G_u64_int rfl rfl ?_
      | refine G_to_u64 rfl rfl ?_
      | refine G_conv _ rfl rfl (by first | exact IntWalk.i64_in _ (by omega) | rfl) ?_)
    | (refine Is_fieldAddr ?_; refine G_fieldOff rfl rfl ?_)
    | (refine Is_indexAddr ?_; first
      | refine G_indexA rfl rfl (by first | decide | omega) rfl ?_
      | refine G_indexP rfl rfl (by first | assumption | omega) rfl ?_)
    | (refine Is_un ?_; refine G_not rfl rfl ?_)
    | (refine Is_makeFunc ?_; refine G_makeFunc rfl rfl rfl ?_)
    | (refine Is_extract ?_; refine G_extract rfl rfl rfl ?_)
    | (refine Is_guard ?_; first
      | refine G_guard_yes (by rw [hops.eq]; rfl) rfl (by simp) ?_
      | refine G_guard_no (by rw [hops.eq]; rfl) rfl rfl rfl ?_)
    | (refine Is_pick ?_; first
      | refine G_pick_t rfl rfl rfl ?_
      | refine G_pick_f rfl rfl rfl ?_)
    | refine GC_cond_t rfl ?_
    | refine GC_cond_f rfl ?_
    | refine GC_seq ?_
    | refine GC_region (fun ops hops => ?_)
    | (refine G_nil ?_; try clear hops; try clear ops)
    | refine At_then ?_
    | refine GC_skip ?_
    | refine GC_block ?_
    | refine GC_exit ?_
    | refine GC_ret ?_
    | refine At_then_exit ?_
    | refine At_then_ret ?_
    | refine At_block ?_
    | refine At_block_ret ?_
    | refine At_block_hit ?_
    | refine At_block_miss rfl ?_
    | refine At_round_exit ?_
    | refine At_round_ret ?_)
        obtain ⟨x, hx⟩ : ∃ x : BitVec 8, x = BitVec.ofNat 8 z0.toNat := ⟨_, rfl⟩
        rw [show IntKind.u8.wrap (z0.toNat : Int) = (x.toNat : Int) by rw [IntKind.wrap_u8, hx]; simp]
        refine G_index_own (j := i) rfl rfl (by repeat (first | exact Take.here | apply Take.there)) (by omega) rfl ?_
        intro g cap hv1
        subst hv1
        refine G_store_own rfl rfl rfl (by repeat (first | exact Take.here | apply Take.there)) (by omega) ?_
        rw [show ((#[] : Array Value).toList ++ List.map B8 bs).set i (B8 x) = (bs.set i x).map B8 by rw [List.map_set]; rfl, Nat.zero_add bs.length]
        obtain ⟨l', hl'⟩ : ∃ l', l' = bs.set i x := ⟨_, rfl⟩
        have hlen : l'.length = bs.length := by rw [hl', List.length_set]
        rw [← hl']
        have hc1 := hB.cell i hil
        have hil' : i < l'.length := by omega
        have h9 : ∀ m, As.own (.slice (some ⟨g, 0, none⟩) bs.length cap) 5 1 bs.length (l'.map B8) ∈ m → Cell w [] m ((⟨g, 0, none⟩ : Addr).add i) (B8 l'[i]) := fun m hm => (RdS.own hm).cell i hil'
        have hxi : l'[i] = x := by subst hl'; simp
        repeat (first
    | (refine Is_move ?_; refine G_move rfl rfl ?_)
    | (refine Is_assign ?_; refine G_assign rfl rfl ?_)
    | (refine Is_bin ?_; first
      | refine G_lss_t rfl rfl (by omega) rfl ?_
      | refine G_lss_f rfl rfl (by omega) rfl ?_
      | refine G_lss rfl rfl rfl ?_
      | refine G_add rfl rfl rfl (by first | exact IntWalk.i64_in _ (by omega) | rfl) ?_
      | refine G_eql_t rfl rfl (by first | with_reducible rfl | assumption | decide +kernel | omega) rfl ?_
      | refine G_eql_f rfl rfl (by first | decide +kernel | omega | assumption) rfl ?_
      | refine G_eql rfl rfl rfl ?_
      | refine G_neq_f rfl rfl (by first | with_reducible rfl | assumption | decide +kernel | omega) rfl ?_
      | refine G_neq_t rfl rfl (by first | decide +kernel | omega | assumption) rfl ?_
      | refine G_neq rfl rfl rfl ?_
      | refine G_leq_t rfl rfl (by omega) rfl ?_
      | refine G_leq_f rfl rfl (by omega) rfl ?_
      | refine G_leq rfl rfl rfl ?_
      | refine G_gtr_t rfl rfl (by omega) rfl ?_
      | refine G_gtr_f rfl rfl (by omega) rfl ?_
      | refine G_gtr rfl rfl rfl ?_
      | refine G_geq_t rfl rfl (by omega) rfl ?_
      | refine G_geq_f rfl rfl (by omega) rfl ?_
      | refine G_geq rfl rfl rfl ?_
      | refine G_sub rfl rfl rfl (by first | exact IntWalk.i64_in _ (by omega) | rfl) ?_
      | refine G_mul rfl rfl rfl (by first | exact IntWalk.i64_in _ (by omega) | rfl) ?_
      | refine G_xor64 rfl rfl rfl ?_
      | refine G_mul64 rfl rfl rfl ?_
      | refine G_or64 rfl rfl rfl ?_
      | refine G_and64 rfl rfl rfl ?_
      | refine G_add64 rfl rfl rfl ?_
      | refine G_sub64 rfl rfl rfl ?_
      | refine G_shr64 rfl rfl rfl rfl ?_
      | refine G_shl64 rfl rfl rfl rfl ?_
      | refine G_eqlB rfl rfl rfl ?_
      | refine G_neqB rfl rfl rfl ?_)
    | (refine Is_load ?_; first
      | refine G_load rfl rfl rfl ?_
      | refine G_load_cell rfl (by first | assumption | (apply_assumption; done) | fail) rfl ?_)
    | (refine Is_store ?_; refine G_store rfl rfl rfl rfl rfl ?_)
    | (refine Is_builtin ?_; first
      | refine G_len rfl rfl ?_)
    | (refine Is_nilCheck ?_; refine G_nilCheck rfl rfl ?_)
    | (refine Is_convert ?_; first
      | refine G_u64_int rfl rfl ?_
      | refine G_to_u64 rfl rfl ?_
      | refine G_conv _ rfl rfl (by first | exact IntWalk.i64_in _ (by omega) | rfl) ?_)
    | (refine Is_fieldAddr ?_; refine G_fieldOff rfl rfl ?_)
    | (refine Is_indexAddr ?_; first
      | refine G_indexA rfl rfl (by first | decide | omega) rfl ?_
      | refine G_indexP rfl rfl (by first | assumption | omega) rfl ?_)
    | (refine Is_un ?_; refine G_not rfl rfl ?_)
    | (refine Is_makeFunc ?_; refine G_makeFunc rfl rfl rfl ?_)
    | (refine Is_extract ?_; refine G_extract rfl rfl rfl ?_)
    | (refine Is_guard ?_; first
      | refine G_guard_yes (by rw [hops.eq]; rfl) rfl (by simp) ?_
      | refine G_guard_no (by rw [hops.eq]; rfl) rfl rfl rfl ?_)
    | (refine Is_pick ?_; first
      | refine G_pick_t rfl rfl rfl ?_
      | refine G_pick_f rfl rfl rfl ?_)
    | refine GC_cond_t rfl ?_
    | refine GC_cond_f rfl ?_
    | refine GC_seq ?_
    | refine GC_region (fun ops hops => ?_)
    | (refine G_nil ?_; try clear hops; try clear ops)
    | refine At_then ?_
    | refine GC_skip ?_
    | refine GC_block ?_
    | refine GC_exit ?_
    | refine GC_ret ?_
    | refine At_then_exit ?_
    | refine At_then_ret ?_
    | refine At_block ?_
    | refine At_block_ret ?_
    | refine At_block_hit ?_
    | refine At_block_miss rfl ?_
    | refine At_round_exit ?_
    | refine At_round_ret ?_)
        refine GC_draw [0, 1, 2, 3, 4, 5, 6, 7, 8, 9, 10, 11, 12, 13, 14] [] 15 rfl (by kernel_rfl) (fun ops hops => ?_)
        repeat
          apply DR_x rfl rfl rfl
          (· intro mm
             (repeat (first
    | (refine Is_move ?_; refine G_move rfl rfl ?_)
    | (refine Is_assign ?_; refine G_assign rfl rfl ?_)
    | (refine Is_bin ?_; first
      | refine G_lss_t rfl rfl (by omega) rfl ?_
      | refine G_lss_f rfl rfl (by omega) rfl ?_
      | refine G_lss rfl rfl rfl ?_
      | refine G_add rfl rfl rfl (by first | exact IntWalk.i64_in _ (by omega) | rfl) ?_
      | refine G_eql_t rfl rfl (by first | with_reducible rfl | assumption | decide +kernel | omega) rfl ?_
      | refine G_eql_f rfl rfl (by first | decide +kernel | omega | assumption) rfl ?_
      | refine G_eql rfl rfl rfl ?_
      | refine G_neq_f rfl rfl (by first | with_reducible rfl | assumption | decide +kernel | omega) rfl ?_
      | refine G_neq_t rfl rfl (by first | decide +kernel | omega | assumption) rfl ?_
      | refine G_neq rfl rfl rfl ?_
      | refine G_leq_t rfl rfl (by omega) rfl ?_
      | refine G_leq_f rfl rfl (by omega) rfl ?_
      | refine G_leq rfl rfl rfl ?_
      | refine G_gtr_t rfl rfl (by omega) rfl ?_
      | refine G_gtr_f rfl rfl (by omega) rfl ?_
      | refine G_gtr rfl rfl rfl ?_
      | refine G_geq_t rfl rfl (by omega) rfl ?_
      | refine G_geq_f rfl rfl (by omega) rfl ?_
      | refine G_geq rfl rfl rfl ?_
      | refine G_sub rfl rfl rfl (by first | exact IntWalk.i64_in _ (by omega) | rfl) ?_
      | refine G_mul rfl rfl rfl (by first | exact IntWalk.i64_in _ (by omega) | rfl) ?_
      | refine G_xor64 rfl rfl rfl ?_
      | refine G_mul64 rfl rfl rfl ?_
      | refine G_or64 rfl rfl rfl ?_
      | refine G_and64 rfl rfl rfl ?_
      | refine G_add64 rfl rfl rfl ?_
      | refine G_sub64 rfl rfl rfl ?_
      | refine G_shr64 rfl rfl rfl rfl ?_
      | refine G_shl64 rfl rfl rfl rfl ?_
      | refine G_eqlB rfl rfl rfl ?_
      | refine G_neqB rfl rfl rfl ?_)
    | (refine Is_load ?_; first
      | refine G_load rfl rfl rfl ?_
      | refine G_load_cell rfl (by first | assumption | (apply_assumption; done) | fail) rfl ?_)
    | (refine Is_store ?_; refine G_store rfl rfl rfl rfl rfl ?_)
    | (refine Is_builtin ?_; first
      | refine G_len rfl rfl ?_)
    | (refine Is_nilCheck ?_; refine G_nilCheck rfl rfl ?_)
    | (refine Is_convert ?_; first
      | refine G_u64_int rfl rfl ?_
      | refine G_to_u64 rfl rfl ?_
      | refine G_conv _ rfl rfl (by first | exact IntWalk.i64_in _ (by omega) | rfl) ?_)
    | (refine Is_fieldAddr ?_; refine G_fieldOff rfl rfl ?_)
    | (refine Is_indexAddr ?_; first
      | refine G_indexA rfl rfl (by first | decide | omega) rfl ?_
      | refine G_indexP rfl rfl (by first | assumption | omega) rfl ?_)
    | (refine Is_un ?_; refine G_not rfl rfl ?_)
    | (refine Is_makeFunc ?_; refine G_makeFunc rfl rfl rfl ?_)
    | (refine Is_extract ?_; refine G_extract rfl rfl rfl ?_)
    | (refine Is_guard ?_; first
      | refine G_guard_yes (by rw [hops.eq]; rfl) rfl (by simp) ?_
      | refine G_guard_no (by rw [hops.eq]; rfl) rfl rfl rfl ?_)
    | (refine Is_pick ?_; first
      | refine G_pick_t rfl rfl rfl ?_
      | refine G_pick_f rfl rfl rfl ?_)
    | refine GC_cond_t rfl ?_
    | refine GC_cond_f rfl ?_
    | refine GC_seq ?_
    | refine GC_region (fun ops hops => ?_)
    | (refine G_nil ?_; try clear hops; try clear ops)
    | refine At_then ?_
    | refine GC_skip ?_
    | refine GC_block ?_
    | refine GC_exit ?_
    | refine GC_ret ?_
    | refine At_then_exit ?_
    | refine At_then_ret ?_
    | refine At_block ?_
    | refine At_block_ret ?_
    | refine At_block_hit ?_
    | refine At_block_miss rfl ?_
    | refine At_round_exit ?_
    | refine At_round_ret ?_))
             exact X_done rfl (List.Sublist.refl _))
        apply DR_x rfl rfl rfl
        · intro mm
          repeat (first
    | (refine Is_move ?_; refine G_move rfl rfl ?_)
    | (refine Is_assign ?_; refine G_assign rfl rfl ?_)
    | (refine Is_bin ?_; first
      | refine G_lss_t rfl rfl (by omega) rfl ?_
      | refine G_lss_f rfl rfl (by omega) rfl ?_
      | refine G_lss rfl rfl rfl ?_
      | refine G_add rfl rfl rfl (by first | exact IntWalk.i64_in _ (by omega) | rfl) ?_
      | refine G_eql_t rfl rfl (by first | with_reducible rfl | assumption | decide +kernel | omega) rfl ?_
      | refine G_eql_f rfl rfl (by first | decide +kernel | omega | assumption) rfl ?_
      | refine G_eql rfl rfl rfl ?_
      | refine G_neq_f rfl rfl (by first | with_reducible rfl | assumption | decide +kernel | omega) rfl ?_
      | refine G_neq_t rfl rfl (by first | decide +kernel | omega | assumption) rfl ?_
      | refine G_neq rfl rfl rfl ?_
      | refine G_leq_t rfl rfl (by omega) rfl ?_
      | refine G_leq_f rfl rfl (by omega) rfl ?_
      | refine G_leq rfl rfl rfl ?_
      | refine G_gtr_t rfl rfl (by omega) rfl ?_
      | refine G_gtr_f rfl rfl (by omega) rfl ?_
      | refine G_gtr rfl rfl rfl ?_
      | refine G_geq_t rfl rfl (by omega) rfl ?_
      | refine G_geq_f rfl rfl (by omega) rfl ?_
      | refine G_geq rfl rfl rfl ?_
      | refine G_sub rfl rfl rfl (by first | exact IntWalk.i64_in _ (by omega) | rfl) ?_
      | refine G_mul rfl rfl rfl (by first | exact IntWalk.i64_in _ (by omega) | rfl) ?_
      | refine G_xor64 rfl rfl rfl ?_
      | refine G_mul64 rfl rfl rfl ?_
      | refine G_or64 rfl rfl rfl ?_
      | refine G_and64 rfl rfl rfl ?_
      | refine G_add64 rfl rfl rfl ?_
      | refine G_sub64 rfl rfl rfl ?_
      | refine G_shr64 rfl rfl rfl rfl ?_
      | refine G_shl64 rfl rfl rfl rfl ?_
      | refine G_eqlB rfl rfl rfl ?_
      | refine G_neqB rfl rfl rfl ?_)
    | (refine Is_load ?_; first
      | refine G_load rfl rfl rfl ?_
      | refine G_load_cell rfl (by first | assumption | (apply_assumption; done) | fail) rfl ?_)
    | (refine Is_store ?_; refine G_store rfl rfl rfl rfl rfl ?_)
    | (refine Is_builtin ?_; first
      | refine G_len rfl rfl ?_)
    | (refine Is_nilCheck ?_; refine G_nilCheck rfl rfl ?_)
    | (refine Is_convert ?_; first
      | refine G_u64_int rfl rfl ?_
      | refine G_to_u64 rfl rfl ?_
      | refine G_conv _ rfl rfl (by first | exact IntWalk.i64_in _ (by omega) | rfl) ?_)
    | (refine Is_fieldAddr ?_; refine G_fieldOff rfl rfl ?_)
    | (refine Is_indexAddr ?_; first
      | refine G_indexA rfl rfl (by first | decide | omega) rfl ?_
      | refine G_indexP rfl rfl (by first | assumption | omega) rfl ?_)
    | (refine Is_un ?_; refine G_not rfl rfl ?_)
    | (refine Is_makeFunc ?_; refine G_makeFunc rfl rfl rfl ?_)
    | (refine Is_extract ?_; refine G_extract rfl rfl rfl ?_)
    | (refine Is_guard ?_; first
      | refine G_guard_yes (by rw [hops.eq]; rfl) rfl (by simp) ?_
      | refine G_guard_no (by rw [hops.eq]; rfl) rfl rfl rfl ?_)
    | (refine Is_pick ?_; first
      | refine G_pick_t rfl rfl rfl ?_
      | refine G_pick_f rfl rfl rfl ?_)
    | refine GC_cond_t rfl ?_
    | refine GC_cond_f rfl ?_
    | refine GC_seq ?_
    | refine GC_region (fun ops hops => ?_)
    | (refine G_nil ?_; try clear hops; try clear ops)
    | refine At_then ?_
    | refine GC_skip ?_
    | refine GC_block ?_
    | refine GC_exit ?_
    | refine GC_ret ?_
    | refine At_then_exit ?_
    | refine At_then_ret ?_
    | refine At_block ?_
    | refine At_block_ret ?_
    | refine At_block_hit ?_
    | refine At_block_miss rfl ?_
    | refine At_round_exit ?_
    | refine At_round_ret ?_)
          refine G_call rfl (fun w1 hw1 => dig_Bytes _ bs w1 (hB.now w1 hw1)) rfl ?_
          repeat (first
    | (refine Is_move ?_; refine G_move rfl rfl ?_)
    | (refine Is_assign ?_; refine G_assign rfl rfl ?_)
    | (refine Is_bin ?_; first
      | refine G_lss_t rfl rfl (by omega) rfl ?_
      | refine G_lss_f rfl rfl (by omega) rfl ?_
      | refine G_lss rfl rfl rfl ?_
      | refine G_add rfl rfl rfl (by first | exact IntWalk.i64_in _ (by omega) | rfl) ?_
      | refine G_eql_t rfl rfl (by first | with_reducible rfl | assumption | decide +kernel | omega) rfl ?_
      | refine G_eql_f rfl rfl (by first | decide +kernel | omega | assumption) rfl ?_
      | refine G_eql rfl rfl rfl ?_
      | refine G_neq_f rfl rfl (by first | with_reducible rfl | assumption | decide +kernel | omega) rfl ?_
      | refine G_neq_t rfl rfl (by first | decide +kernel | omega | assumption) rfl ?_
      | refine G_neq rfl rfl rfl ?_
      | refine G_leq_t rfl rfl (by omega) rfl ?_
      | refine G_leq_f rfl rfl (by omega) rfl ?_
      | refine G_leq rfl rfl rfl ?_
      | refine G_gtr_t rfl rfl (by omega) rfl ?_
      | refine G_gtr_f rfl rfl (by omega) rfl ?_
      | refine G_gtr rfl rfl rfl ?_
      | refine G_geq_t rfl rfl (by omega) rfl ?_
      | refine G_geq_f rfl rfl (by omega) rfl ?_
      | refine G_geq rfl rfl rfl ?_
      | refine G_sub rfl rfl rfl (by first | exact IntWalk.i64_in _ (by omega) | rfl) ?_
      | refine G_mul rfl rfl rfl (by first | exact IntWalk.i64_in _ (by omega) | rfl) ?_
      | refine G_xor64 rfl rfl rfl ?_
      | refine G_mul64 rfl rfl rfl ?_
      | refine G_or64 rfl rfl rfl ?_
      | refine G_and64 rfl rfl rfl ?_
      | refine G_add64 rfl rfl rfl ?_
      | refine G_sub64 rfl rfl rfl ?_
      | refine G_shr64 rfl rfl rfl rfl ?_
      | refine G_shl64 rfl rfl rfl rfl ?_
      | refine G_eqlB rfl rfl rfl ?_
      | refine G_neqB rfl rfl rfl ?_)
    | (refine Is_load ?_; first
      | refine G_load rfl rfl rfl ?_
      | refine G_load_cell rfl (by first | assumption | (apply_assumption; done) | fail) rfl ?_)
    | (refine Is_store ?_; refine G_store rfl rfl rfl rfl rfl ?_)
    | (refine Is_builtin ?_; first
      | refine G_len rfl rfl ?_)
    | (refine Is_nilCheck ?_; refine G_nilCheck rfl rfl ?_)
    | (refine Is_convert ?_; first
      | refine G_u64_int rfl rfl ?_
      | refine G_to_u64 rfl rfl ?_
      | refine G_conv _ rfl rfl (by first | exact IntWalk.i64_in _ (by omega) | rfl) ?_)
    | (refine Is_fieldAddr ?_; refine G_fieldOff rfl rfl ?_)
    | (refine Is_indexAddr ?_; first
      | refine G_indexA rfl rfl (by first | decide | omega) rfl ?_
      | refine G_indexP rfl rfl (by first | assumption | omega) rfl ?_)
    | (refine Is_un ?_; refine G_not rfl rfl ?_)
    | (refine Is_makeFunc ?_; refine G_makeFunc rfl rfl rfl ?_)
    | (refine Is_extract ?_; refine G_extract rfl rfl rfl ?_)
    | (refine Is_guard ?_; first
      | refine G_guard_yes (by rw [hops.eq]; rfl) rfl (by simp) ?_
      | refine G_guard_no (by rw [hops.eq]; rfl) rfl rfl rfl ?_)
    | (refine Is_pick ?_; first
      | refine G_pick_t rfl rfl rfl ?_
      | refine G_pick_f rfl rfl rfl ?_)
    | refine GC_cond_t rfl ?_
    | refine GC_cond_f rfl ?_
    | refine GC_seq ?_
    | refine GC_region (fun ops hops => ?_)
    | (refine G_nil ?_; try clear hops; try clear ops)
    | refine At_then ?_
    | refine GC_skip ?_
    | refine GC_block ?_
    | refine GC_exit ?_
    | refine GC_ret ?_
    | refine At_then_exit ?_
    | refine At_then_ret ?_
    | refine At_block ?_
    | refine At_block_ret ?_
    | refine At_block_hit ?_
    | refine At_block_miss rfl ?_
    | refine At_round_exit ?_
    | refine At_round_ret ?_)
          (refine X_done rfl ?_; first | exact List.Sublist.refl _ | exact List.sublist_append_right _ _ | exact List.Sublist.cons _ (List.Sublist.refl _))
        repeat
          apply DR_x rfl rfl rfl
          (· intro mm
             (repeat (first
    | (refine Is_move ?_; refine G_move rfl rfl ?_)
    | (refine Is_assign ?_; refine G_assign rfl rfl ?_)
    | (refine Is_bin ?_; first
      | refine G_lss_t rfl rfl (by omega) rfl ?_
      | refine G_lss_f rfl rfl (by omega) rfl ?_
      | refine G_lss rfl rfl rfl ?_
      | refine G_add rfl rfl rfl (by first | exact IntWalk.i64_in _ (by omega) | rfl) ?_
      | refine G_eql_t rfl rfl (by first | with_reducible rfl | assumption | decide +kernel | omega) rfl ?_
      | refine G_eql_f rfl rfl (by first | decide +kernel | omega | assumption) rfl ?_
      | refine G_eql rfl rfl rfl ?_
      | refine G_neq_f rfl rfl (by first | with_reducible rfl | assumption | decide +kernel | omega) rfl ?_
      | refine G_neq_t rfl rfl (by first | decide +kernel | omega | assumption) rfl ?_
      | refine G_neq rfl rfl rfl ?_
      | refine G_leq_t rfl rfl (by omega) rfl ?_
      | refine G_leq_f rfl rfl (by omega) rfl ?_
      | refine G_leq rfl rfl rfl ?_
      | refine G_gtr_t rfl rfl (by omega) rfl ?_
      | refine G_gtr_f rfl rfl (by omega) rfl ?_
      | refine G_gtr rfl rfl rfl ?_
      | refine G_geq_t rfl rfl (by omega) rfl ?_
      | refine G_geq_f rfl rfl (by omega) rfl ?_
      | refine G_geq rfl rfl rfl ?_
      | refine G_sub rfl rfl rfl (by first | exact IntWalk.i64_in _ (by omega) | rfl) ?_
      | refine G_mul rfl rfl rfl (by first | exact IntWalk.i64_in _ (by omega) | rfl) ?_
      | refine G_xor64 rfl rfl rfl ?_
      | refine G_mul64 rfl rfl rfl ?_
      | refine G_or64 rfl rfl rfl ?_
      | refine G_and64 rfl rfl rfl ?_
      | refine G_add64 rfl rfl rfl ?_
      | refine G_sub64 rfl rfl rfl ?_
      | refine G_shr64 rfl rfl rfl rfl ?_
      | refine G_shl64 rfl rfl rfl rfl ?_
      | refine G_eqlB rfl rfl rfl ?_
      | refine G_neqB rfl rfl rfl ?_)
    | (refine Is_load ?_; first
      | refine G_load rfl rfl rfl ?_
      | refine G_load_cell rfl (by first | assumption | (apply_assumption; done) | fail) rfl ?_)
    | (refine Is_store ?_; refine G_store rfl rfl rfl rfl rfl ?_)
    | (refine Is_builtin ?_; first
      | refine G_len rfl rfl ?_)
    | (refine Is_nilCheck ?_; refine G_nilCheck rfl rfl ?_)
    | (refine Is_convert ?_; first
      | refine G_u64_int rfl rfl ?_
      | refine G_to_u64 rfl rfl ?_
      | refine G_conv _ rfl rfl (by first | exact IntWalk.i64_in _ (by omega) | rfl) ?_)
    | (refine Is_fieldAddr ?_; refine G_fieldOff rfl rfl ?_)
    | (refine Is_indexAddr ?_; first
      | refine G_indexA rfl rfl (by first | decide | omega) rfl ?_
      | refine G_indexP rfl rfl (by first | assumption | omega) rfl ?_)
    | (refine Is_un ?_; refine G_not rfl rfl ?_)
    | (refine Is_makeFunc ?_; refine G_makeFunc rfl rfl rfl ?_)
    | (refine Is_extract ?_; refine G_extract rfl rfl rfl ?_)
    | (refine Is_guard ?_; first
      | refine G_guard_yes (by rw [hops.eq]; rfl) rfl (by simp) ?_
      | refine G_guard_no (by rw [hops.eq]; rfl) rfl rfl rfl ?_)
    | (refine Is_pick ?_; first
      | refine G_pick_t rfl rfl rfl ?_
      | refine G_pick_f rfl rfl rfl ?_)
    | refine GC_cond_t rfl ?_
    | refine GC_cond_f rfl ?_
    | refine GC_seq ?_
    | refine GC_region (fun ops hops => ?_)
    | (refine G_nil ?_; try clear hops; try clear ops)
    | refine At_then ?_
    | refine GC_skip ?_
    | refine GC_block ?_
    | refine GC_exit ?_
    | refine GC_ret ?_
    | refine At_then_exit ?_
    | refine At_then_ret ?_
    | refine At_block ?_
    | refine At_block_ret ?_
    | refine At_block_hit ?_
    | refine At_block_miss rfl ?_
    | refine At_round_exit ?_
    | refine At_round_ret ?_))
             exact X_done rfl (List.Sublist.refl _))
        apply DR_x rfl rfl rfl
        · intro mm
          repeat (first
    | (refine Is_move ?_; refine G_move rfl rfl ?_)
    | (refine Is_assign ?_; refine G_assign rfl rfl ?_)
    | (refine Is_bin ?_; first
      | refine G_lss_t rfl rfl (by omega) rfl ?_
      | refine G_lss_f rfl rfl (by omega) rfl ?_
      | refine G_lss rfl rfl rfl ?_
      | refine G_add rfl rfl rfl (by first | exact IntWalk.i64_in _ (by omega) | rfl) ?_
      | refine G_eql_t rfl rfl (by first | with_reducible rfl | assumption | decide +kernel | omega) rfl ?_
      | refine G_eql_f rfl rfl (by first | decide +kernel | omega | assumption) rfl ?_
      | refine G_eql rfl rfl rfl ?_
      | refine G_neq_f rfl rfl (by first | with_reducible rfl | assumption | decide +kernel | omega) rfl ?_
      | refine G_neq_t rfl rfl (by first | decide +kernel | omega | assumption) rfl ?_
      | refine G_neq rfl rfl rfl ?_
      | refine G_leq_t rfl rfl (by omega) rfl ?_
      | refine G_leq_f rfl rfl (by omega) rfl ?_
      | refine G_leq rfl rfl rfl ?_
      | refine G_gtr_t rfl rfl (by omega) rfl ?_
      | refine G_gtr_f rfl rfl (by omega) rfl ?_
      | refine G_gtr rfl rfl rfl ?_
      | refine G_geq_t rfl rfl (by omega) rfl ?_
      | refine G_geq_f rfl rfl (by omega) rfl ?_
      | refine G_geq rfl rfl rfl ?_
      | refine G_sub rfl rfl rfl (by first | exact IntWalk.i64_in _ (by omega) | rfl) ?_
      | refine G_mul rfl rfl rfl (by first | exact IntWalk.i64_in _ (by omega) | rfl) ?_
      | refine G_xor64 rfl rfl rfl ?_
      | refine G_mul64 rfl rfl rfl ?_
      | refine G_or64 rfl rfl rfl ?_
      | refine G_and64 rfl rfl rfl ?_
      | refine G_add64 rfl rfl rfl ?_
      | refine G_sub64 rfl rfl rfl ?_
      | refine G_shr64 rfl rfl rfl rfl ?_
      | refine G_shl64 rfl rfl rfl rfl ?_
      | refine G_eqlB rfl rfl rfl ?_
      | refine G_neqB rfl rfl rfl ?_)
    | (refine Is_load ?_; first
      | refine G_load rfl rfl rfl ?_
      | refine G_load_cell rfl (by first | assumption | (apply_assumption; done) | fail) rfl ?_)
    | (refine Is_store ?_; refine G_store rfl rfl rfl rfl rfl ?_)
    | (refine Is_builtin ?_; first
      | refine G_len rfl rfl ?_)
    | (refine Is_nilCheck ?_; refine G_nilCheck rfl rfl ?_)
    | (refine Is_convert ?_; first
      | refine G_u64_int rfl rfl ?_
      | refine G_to_u64 rfl rfl ?_
      | refine G_conv _ rfl rfl (by first | exact IntWalk.i64_in _ (by omega) | rfl) ?_)
    | (refine Is_fieldAddr ?_; refine G_fieldOff rfl rfl ?_)
    | (refine Is_indexAddr ?_; first
      | refine G_indexA rfl rfl (by first | decide | omega) rfl ?_
      | refine G_indexP rfl rfl (by first | assumption | omega) rfl ?_)
    | (refine Is_un ?_; refine G_not rfl rfl ?_)
    | (refine Is_makeFunc ?_; refine G_makeFunc rfl rfl rfl ?_)
    | (refine Is_extract ?_; refine G_extract rfl rfl rfl ?_)
    | (refine Is_guard ?_; first
      | refine G_guard_yes (by rw [hops.eq]; rfl) rfl (by simp) ?_
      | refine G_guard_no (by rw [hops.eq]; rfl) rfl rfl rfl ?_)
    | (refine Is_pick ?_; first
      | refine G_pick_t rfl rfl rfl ?_
      | refine G_pick_f rfl rfl rfl ?_)
    | refine GC_cond_t rfl ?_
    | refine GC_cond_f rfl ?_
    | refine GC_seq ?_
    | refine GC_region (fun ops hops => ?_)
    | (refine G_nil ?_; try clear hops; try clear ops)
    | refine At_then ?_
    | refine GC_skip ?_
    | refine GC_block ?_
    | refine GC_exit ?_
    | refine GC_ret ?_
    | refine At_then_exit ?_
    | refine At_then_ret ?_
    | refine At_block ?_
    | refine At_block_ret ?_
    | refine At_block_hit ?_
    | refine At_block_miss rfl ?_
    | refine At_round_exit ?_
    | refine At_round_ret ?_)
          refine G_call rfl (fun w1 hw1 => dig_Bytes _ l' w1 (RdS.own (e := 5) (n := bs.length) (by simp) w1 hw1)) rfl ?_
          repeat (first
    | (refine Is_move ?_; refine G_move rfl rfl ?_)
    | (refine Is_assign ?_; refine G_assign rfl rfl ?_)
    | (refine Is_bin ?_; first
      | refine G_lss_t rfl rfl (by omega) rfl ?_
      | refine G_lss_f rfl rfl (by omega) rfl ?_
      | refine G_lss rfl rfl rfl ?_
      | refine G_add rfl rfl rfl (by first | exact IntWalk.i64_in _ (by omega) | rfl) ?_
      | refine G_eql_t rfl rfl (by first | with_reducible rfl | assumption | decide +kernel | omega) rfl ?_
      | refine G_eql_f rfl rfl (by first | decide +kernel | omega | assumption) rfl ?_
      | refine G_eql rfl rfl rfl ?_
      | refine G_neq_f rfl rfl (by first | with_reducible rfl | assumption | decide +kernel | omega) rfl ?_
      | refine G_neq_t rfl rfl (by first | decide +kernel | omega | assumption) rfl ?_
      | refine G_neq rfl rfl rfl ?_
      | refine G_leq_t rfl rfl (by omega) rfl ?_
      | refine G_leq_f rfl rfl (by omega) rfl ?_
      | refine G_leq rfl rfl rfl ?_
      | refine G_gtr_t rfl rfl (by omega) rfl ?_
      | refine G_gtr_f rfl rfl (by omega) rfl ?_
      | refine G_gtr rfl rfl rfl ?_
      | refine G_geq_t rfl rfl (by omega) rfl ?_
      | refine G_geq_f rfl rfl (by omega) rfl ?_
      | refine G_geq rfl rfl rfl ?_
      | refine G_sub rfl rfl rfl (by first | exact IntWalk.i64_in _ (by omega) | rfl) ?_
      | refine G_mul rfl rfl rfl (by first | exact IntWalk.i64_in _ (by omega) | rfl) ?_
      | refine G_xor64 rfl rfl rfl ?_
      | refine G_mul64 rfl rfl rfl ?_
      | refine G_or64 rfl rfl rfl ?_
      | refine G_and64 rfl rfl rfl ?_
      | refine G_add64 rfl rfl rfl ?_
      | refine G_sub64 rfl rfl rfl ?_
      | refine G_shr64 rfl rfl rfl rfl ?_
      | refine G_shl64 rfl rfl rfl rfl ?_
      | refine G_eqlB rfl rfl rfl ?_
      | refine G_neqB rfl rfl rfl ?_)
    | (refine Is_load ?_; first
      | refine G_load rfl rfl rfl ?_
      | refine G_load_cell rfl (by first | assumption | (apply_assumption; done) | fail) rfl ?_)
    | (refine Is_store ?_; refine G_store rfl rfl rfl rfl rfl ?_)
    | (refine Is_builtin ?_; first
      | refine G_len rfl rfl ?_)
    | (refine Is_nilCheck ?_; refine G_nilCheck rfl rfl ?_)
    | (refine Is_convert ?_; first
      | refine G_u64_int rfl rfl ?_
      | refine G_to_u64 rfl rfl ?_
      | refine G_conv _ rfl rfl (by first | exact IntWalk.i64_in _ (by omega) | rfl) ?_)
    | (refine Is_fieldAddr ?_; refine G_fieldOff rfl rfl ?_)
    | (refine Is_indexAddr ?_; first
      | refine G_indexA rfl rfl (by first | decide | omega) rfl ?_
      | refine G_indexP rfl rfl (by first | assumption | omega) rfl ?_)
    | (refine Is_un ?_; refine G_not rfl rfl ?_)
    | (refine Is_makeFunc ?_; refine G_makeFunc rfl rfl rfl ?_)
    | (refine Is_extract ?_; refine G_extract rfl rfl rfl ?_)
    | (refine Is_guard ?_; first
      | refine G_guard_yes (by rw [hops.eq]; rfl) rfl (by simp) ?_
      | refine G_guard_no (by rw [hops.eq]; rfl) rfl rfl rfl ?_)
    | (refine Is_pick ?_; first
      | refine G_pick_t rfl rfl rfl ?_
      | refine G_pick_f rfl rfl rfl ?_)
    | refine GC_cond_t rfl ?_
    | refine GC_cond_f rfl ?_
    | refine GC_seq ?_
    | refine GC_region (fun ops hops => ?_)
    | (refine G_nil ?_; try clear hops; try clear ops)
    | refine At_then ?_
    | refine GC_skip ?_
    | refine GC_block ?_
    | refine GC_exit ?_
    | refine GC_ret ?_
    | refine At_then_exit ?_
    | refine At_then_ret ?_
    | refine At_block ?_
    | refine At_block_ret ?_
    | refine At_block_hit ?_
    | refine At_block_miss rfl ?_
    | refine At_round_exit ?_
    | refine At_round_ret ?_)
          (refine X_done rfl ?_; first | exact List.Sublist.refl _ | exact List.sublist_append_right _ _ | exact List.Sublist.cons _ (List.Sublist.refl _))
        repeat
          apply DR_x rfl rfl rfl
          (· intro mm
             (repeat (first
    | (refine Is_move ?_; refine G_move rfl rfl ?_)
    | (refine Is_assign ?_; refine G_assign rfl rfl ?_)
    | (refine Is_bin ?_; first
      | refine G_lss_t rfl rfl (by omega) rfl ?_
      | refine G_lss_f rfl rfl (by omega) rfl ?_
      | refine G_lss rfl rfl rfl ?_
      | refine G_add rfl rfl rfl (by first | exact IntWalk.i64_in _ (by omega) | rfl) ?_
      | refine G_eql_t rfl rfl (by first | with_reducible rfl | assumption | decide +kernel | omega) rfl ?_
      | refine G_eql_f rfl rfl (by first | decide +kernel | omega | assumption) rfl ?_
      | refine G_eql rfl rfl rfl ?_
      | refine G_neq_f rfl rfl (by first | with_reducible rfl | assumption | decide +kernel | omega) rfl ?_
      | refine G_neq_t rfl rfl (by first | decide +kernel | omega | assumption) rfl ?_
      | refine G_neq rfl rfl rfl ?_
      | refine G_leq_t rfl rfl (by omega) rfl ?_
      | refine G_leq_f rfl rfl (by omega) rfl ?_
      | refine G_leq rfl rfl rfl ?_
      | refine G_gtr_t rfl rfl (by omega) rfl ?_
      | refine G_gtr_f rfl rfl (by omega) rfl ?_
      | refine G_gtr rfl rfl rfl ?_
      | refine G_geq_t rfl rfl (by omega) rfl ?_
      | refine G_geq_f rfl rfl (by omega) rfl ?_
      | refine G_geq rfl rfl rfl ?_
      | refine G_sub rfl rfl rfl (by first | exact IntWalk.i64_in _ (by omega) | rfl) ?_
      | refine G_mul rfl rfl rfl (by first | exact IntWalk.i64_in _ (by omega) | rfl) ?_
      | refine G_xor64 rfl rfl rfl ?_
      | refine G_mul64 rfl rfl rfl ?_
      | refine G_or64 rfl rfl rfl ?_
      | refine G_and64 rfl rfl rfl ?_
      | refine G_add64 rfl rfl rfl ?_
      | refine G_sub64 rfl rfl rfl ?_
      | refine G_shr64 rfl rfl rfl rfl ?_
      | refine G_shl64 rfl rfl rfl rfl ?_
      | refine G_eqlB rfl rfl rfl ?_
      | refine G_neqB rfl rfl rfl ?_)
    | (refine Is_load ?_; first
      | refine G_load rfl rfl rfl ?_
      | refine G_load_cell rfl (by first | assumption | (apply_assumption; done) | fail) rfl ?_)
    | (refine Is_store ?_; refine G_store rfl rfl rfl rfl rfl ?_)
    | (refine Is_builtin ?_; first
      | refine G_len rfl rfl ?_)
    | (refine Is_nilCheck ?_; refine G_nilCheck rfl rfl ?_)
    | (refine Is_convert ?_; first
      | refine G_u64_int rfl rfl ?_
      | refine G_to_u64 rfl rfl ?_
      | refine G_conv _ rfl rfl (by first | exact IntWalk.i64_in _ (by omega) | rfl) ?_)
    | (refine Is_fieldAddr ?_; refine G_fieldOff rfl rfl ?_)
    | (refine Is_indexAddr ?_; first
      | refine G_indexA rfl rfl (by first | decide | omega) rfl ?_
      | refine G_indexP rfl rfl (by first | assumption | omega) rfl ?_)
    | (refine Is_un ?_; refine G_not rfl rfl ?_)
    | (refine Is_makeFunc ?_; refine G_makeFunc rfl rfl rfl ?_)
    | (refine Is_extract ?_; refine G_extract rfl rfl rfl ?_)
    | (refine Is_guard ?_; first
      | refine G_guard_yes (by rw [hops.eq]; rfl) rfl (by simp) ?_
      | refine G_guard_no (by rw [hops.eq]; rfl) rfl rfl rfl ?_)
    | (refine Is_pick ?_; first
      | refine G_pick_t rfl rfl rfl ?_
      | refine G_pick_f rfl rfl rfl ?_)
    | refine GC_cond_t rfl ?_
    | refine GC_cond_f rfl ?_
    | refine GC_seq ?_
    | refine GC_region (fun ops hops => ?_)
    | (refine G_nil ?_; try clear hops; try clear ops)
    | refine At_then ?_
    | refine GC_skip ?_
    | refine GC_block ?_
    | refine GC_exit ?_
    | refine GC_ret ?_
    | refine At_then_exit ?_
    | refine At_then_ret ?_
    | refine At_block ?_
    | refine At_block_ret ?_
    | refine At_block_hit ?_
    | refine At_block_miss rfl ?_
    | refine At_round_exit ?_
    | refine At_round_ret ?_))
             exact X_done rfl (List.Sublist.refl _))
        apply DR_x rfl rfl rfl
        · intro mm
          repeat (first
    | (refine Is_move ?_; refine G_move rfl rfl ?_)
    | (refine Is_assign ?_; refine G_assign rfl rfl ?_)
    | (refine Is_bin ?_; first
      | refine G_lss_t rfl rfl (by omega) rfl ?_
      | refine G_lss_f rfl rfl (by omega) rfl ?_
      | refine G_lss rfl rfl rfl ?_
      | refine G_add rfl rfl rfl (by first | exact IntWalk.i64_in _ (by omega) | rfl) ?_
      | refine G_eql_t rfl rfl (by first | with_reducible rfl | assumption | decide +kernel | omega) rfl ?_
      | refine G_eql_f rfl rfl (by first | decide +kernel | omega | assumption) rfl ?_
      | refine G_eql rfl rfl rfl ?_
      | refine G_neq_f rfl rfl (by first | with_reducible rfl | assumption | decide +kernel | omega) rfl ?_
      | refine G_neq_t rfl rfl (by first | decide +kernel | omega | assumption) rfl ?_
      | refine G_neq rfl rfl rfl ?_
      | refine G_leq_t rfl rfl (by omega) rfl ?_
      | refine G_leq_f rfl rfl (by omega) rfl ?_
      | refine G_leq rfl rfl rfl ?_
      | refine G_gtr_t rfl rfl (by omega) rfl ?_
      | refine G_gtr_f rfl rfl (by omega) rfl ?_
      | refine G_gtr rfl rfl rfl ?_
      | refine G_geq_t rfl rfl (by omega) rfl ?_
      | refine G_geq_f rfl rfl (by omega) rfl ?_
      | refine G_geq rfl rfl rfl ?_
      | refine G_sub rfl rfl rfl (by first | exact IntWalk.i64_in _ (by omega) | rfl) ?_
      | refine G_mul rfl rfl rfl (by first | exact IntWalk.i64_in _ (by omega) | rfl) ?_
      | refine G_xor64 rfl rfl rfl ?_
      | refine G_mul64 rfl rfl rfl ?_
      | refine G_or64 rfl rfl rfl ?_
      | refine G_and64 rfl rfl rfl ?_
      | refine G_add64 rfl rfl rfl ?_
      | refine G_sub64 rfl rfl rfl ?_
      | refine G_shr64 rfl rfl rfl rfl ?_
      | refine G_shl64 rfl rfl rfl rfl ?_
      | refine G_eqlB rfl rfl rfl ?_
      | refine G_neqB rfl rfl rfl ?_)
    | (refine Is_load ?_; first
      | refine G_load rfl rfl rfl ?_
      | refine G_load_cell rfl (by first | assumption | (apply_assumption; done) | fail) rfl ?_)
    | (refine Is_store ?_; refine G_store rfl rfl rfl rfl rfl ?_)
    | (refine Is_builtin ?_; first
      | refine G_len rfl rfl ?_)
    | (refine Is_nilCheck ?_; refine G_nilCheck rfl rfl ?_)
    | (refine Is_convert ?_; first
      | refine G_u64_int rfl rfl ?_
      | refine G_to_u64 rfl rfl ?_
      | refine G_conv _ rfl rfl (by first | exact IntWalk.i64_in _ (by omega) | rfl) ?_)
    | (refine Is_fieldAddr ?_; refine G_fieldOff rfl rfl ?_)
    | (refine Is_indexAddr ?_; first
      | refine G_indexA rfl rfl (by first | decide | omega) rfl ?_
      | refine G_indexP rfl rfl (by first | assumption | omega) rfl ?_)
    | (refine Is_un ?_; refine G_not rfl rfl ?_)
    | (refine Is_makeFunc ?_; refine G_makeFunc rfl rfl rfl ?_)
    | (refine Is_extract ?_; refine G_extract rfl rfl rfl ?_)
    | (refine Is_guard ?_; first
      | refine G_guard_yes (by rw [hops.eq]; rfl) rfl (by simp) ?_
      | refine G_guard_no (by rw [hops.eq]; rfl) rfl rfl rfl ?_)
    | (refine Is_pick ?_; first
      | refine G_pick_t rfl rfl rfl ?_
      | refine G_pick_f rfl rfl rfl ?_)
    | refine GC_cond_t rfl ?_
    | refine GC_cond_f rfl ?_
    | refine GC_seq ?_
    | refine GC_region (fun ops hops => ?_)
    | (refine G_nil ?_; try clear hops; try clear ops)
    | refine At_then ?_
    | refine GC_skip ?_
    | refine GC_block ?_
    | refine GC_exit ?_
    | refine GC_ret ?_
    | refine At_then_exit ?_
    | refine At_then_ret ?_
    | refine At_block ?_
    | refine At_block_ret ?_
    | refine At_block_hit ?_
    | refine At_block_miss rfl ?_
    | refine At_round_exit ?_
    | refine At_round_ret ?_)
          refine G_load_cell rfl (h9 ([_, _] ++ mm) (by simp)) rfl ?_
          repeat (first
    | (refine Is_move ?_; refine G_move rfl rfl ?_)
    | (refine Is_assign ?_; refine G_assign rfl rfl ?_)
    | (refine Is_bin ?_; first
      | refine G_lss_t rfl rfl (by omega) rfl ?_
      | refine G_lss_f rfl rfl (by omega) rfl ?_
      | refine G_lss rfl rfl rfl ?_
      | refine G_add rfl rfl rfl (by first | exact IntWalk.i64_in _ (by omega) | rfl) ?_
      | refine G_eql_t rfl rfl (by first | with_reducible rfl | assumption | decide +kernel | omega) rfl ?_
      | refine G_eql_f rfl rfl (by first | decide +kernel | omega | assumption) rfl ?_
      | refine G_eql rfl rfl rfl ?_
      | refine G_neq_f rfl rfl (by first | with_reducible rfl | assumption | decide +kernel | omega) rfl ?_
      | refine G_neq_t rfl rfl (by first | decide +kernel | omega | assumption) rfl ?_
      | refine G_neq rfl rfl rfl ?_
      | refine G_leq_t rfl rfl (by omega) rfl ?_
      | refine G_leq_f rfl rfl (by omega) rfl ?_
      | refine G_leq rfl rfl rfl ?_
      | refine G_gtr_t rfl rfl (by omega) rfl ?_
      | refine G_gtr_f rfl rfl (by omega) rfl ?_
      | refine G_gtr rfl rfl rfl ?_
      | refine G_geq_t rfl rfl (by omega) rfl ?_
      | refine G_geq_f rfl rfl (by omega) rfl ?_
      | refine G_geq rfl rfl rfl ?_
      | refine G_sub rfl rfl rfl (by first | exact IntWalk.i64_in _ (by omega) | rfl) ?_
      | refine G_mul rfl rfl rfl (by first | exact IntWalk.i64_in _ (by omega) | rfl) ?_
      | refine G_xor64 rfl rfl rfl ?_
      | refine G_mul64 rfl rfl rfl ?_
      | refine G_or64 rfl rfl rfl ?_
      | refine G_and64 rfl rfl rfl ?_
      | refine G_add64 rfl rfl rfl ?_
      | refine G_sub64 rfl rfl rfl ?_
      | refine G_shr64 rfl rfl rfl rfl ?_
      | refine G_shl64 rfl rfl rfl rfl ?_
      | refine G_eqlB rfl rfl rfl ?_
      | refine G_neqB rfl rfl rfl ?_)
    | (refine Is_load ?_; first
      | refine G_load rfl rfl rfl ?_
      | refine G_load_cell rfl (by first | assumption | (apply_assumption; done) | fail) rfl ?_)
    | (refine Is_store ?_; refine G_store rfl rfl rfl rfl rfl ?_)
    | (refine Is_builtin ?_; first
      | refine G_len rfl rfl ?_)
    | (refine Is_nilCheck ?_; refine G_nilCheck rfl rfl ?_)
    | (refine Is_convert ?_; first
      | refine G_u64_int rfl rfl ?_
      | refine G_to_u64 rfl rfl ?_
      | refine G_conv _ rfl rfl (by first | exact IntWalk.i64_in _ (by omega) | rfl) ?_)
    | (refine Is_fieldAddr ?_; refine G_fieldOff rfl rfl ?_)
    | (refine Is_indexAddr ?_; first
      | refine G_indexA rfl rfl (by first | decide | omega) rfl ?_
      | refine G_indexP rfl rfl (by first | assumption | omega) rfl ?_)
    | (refine Is_un ?_; refine G_not rfl rfl ?_)
    | (refine Is_makeFunc ?_; refine G_makeFunc rfl rfl rfl ?_)
    | (refine Is_extract ?_; refine G_extract rfl rfl rfl ?_)
    | (refine Is_guard ?_; first
      | refine G_guard_yes (by rw [hops.eq]; rfl) rfl (by simp) ?_
      | refine G_guard_no (by rw [hops.eq]; rfl) rfl rfl rfl ?_)
    | (refine Is_pick ?_; first
      | refine G_pick_t rfl rfl rfl ?_
      | refine G_pick_f rfl rfl rfl ?_)
    | refine GC_cond_t rfl ?_
    | refine GC_cond_f rfl ?_
    | refine GC_seq ?_
    | refine GC_region (fun ops hops => ?_)
    | (refine G_nil ?_; try clear hops; try clear ops)
    | refine At_then ?_
    | refine GC_skip ?_
    | refine GC_block ?_
    | refine GC_exit ?_
    | refine GC_ret ?_
    | refine At_then_exit ?_
    | refine At_then_ret ?_
    | refine At_block ?_
    | refine At_block_ret ?_
    | refine At_block_hit ?_
    | refine At_block_miss rfl ?_
    | refine At_round_exit ?_
    | refine At_round_ret ?_)
          (refine X_done rfl ?_; first | exact List.Sublist.refl _ | exact List.sublist_append_right _ _ | exact List.Sublist.cons _ (List.Sublist.refl _))
        repeat
          apply DR_x rfl rfl rfl
          (· intro mm
             (repeat (first
    | (refine Is_move ?_; refine G_move rfl rfl ?_)
    | (refine Is_assign ?_; refine G_assign rfl rfl ?_)
    | (refine Is_bin ?_; first
      | refine G_lss_t rfl rfl (by omega) rfl ?_
      | refine G_lss_f rfl rfl (by omega) rfl ?_
      | refine G_lss rfl rfl rfl ?_
      | refine G_add rfl rfl rfl (by first | exact IntWalk.i64_in _ (by omega) | rfl) ?_
      | refine G_eql_t rfl rfl (by first | with_reducible rfl | assumption | decide +kernel | omega) rfl ?_
      | refine G_eql_f rfl rfl (by first | decide +kernel | omega | assumption) rfl ?_
      | refine G_eql rfl rfl rfl ?_
      | refine G_neq_f rfl rfl (by first | with_reducible rfl | assumption | decide +kernel | omega) rfl ?_
      | refine G_neq_t rfl rfl (by first | decide +kernel | omega | assumption) rfl ?_
      | refine G_neq rfl rfl rfl ?_
      | refine G_leq_t rfl rfl (by omega) rfl ?_
      | refine G_leq_f rfl rfl (by omega) rfl ?_
      | refine G_leq rfl rfl rfl ?_
      | refine G_gtr_t rfl rfl (by omega) rfl ?_
      | refine G_gtr_f rfl rfl (by omega) rfl ?_
      | refine G_gtr rfl rfl rfl ?_
      | refine G_geq_t rfl rfl (by omega) rfl ?_
      | refine G_geq_f rfl rfl (by omega) rfl ?_
      | refine G_geq rfl rfl rfl ?_
      | refine G_sub rfl rfl rfl (by first | exact IntWalk.i64_in _ (by omega) | rfl) ?_
      | refine G_mul rfl rfl rfl (by first | exact IntWalk.i64_in _ (by omega) | rfl) ?_
      | refine G_xor64 rfl rfl rfl ?_
      | refine G_mul64 rfl rfl rfl ?_
      | refine G_or64 rfl rfl rfl ?_
      | refine G_and64 rfl rfl rfl ?_
      | refine G_add64 rfl rfl rfl ?_
      | refine G_sub64 rfl rfl rfl ?_
      | refine G_shr64 rfl rfl rfl rfl ?_
      | refine G_shl64 rfl rfl rfl rfl ?_
      | refine G_eqlB rfl rfl rfl ?_
      | refine G_neqB rfl rfl rfl ?_)
    | (refine Is_load ?_; first
      | refine G_load rfl rfl rfl ?_
      | refine G_load_cell rfl (by first | assumption | (apply_assumption; done) | fail) rfl ?_)
    | (refine Is_store ?_; refine G_store rfl rfl rfl rfl rfl ?_)
    | (refine Is_builtin ?_; first
      | refine G_len rfl rfl ?_)
    | (refine Is_nilCheck ?_; refine G_nilCheck rfl rfl ?_)
    | (refine Is_convert ?_; first
      | refine G_u64_int rfl rfl ?_
      | refine G_to_u64 rfl rfl ?_
      | refine G_conv _ rfl rfl (by first | exact IntWalk.i64_in _ (by omega) | rfl) ?_)
    | (refine Is_fieldAddr ?_; refine G_fieldOff rfl rfl ?_)
    | (refine Is_indexAddr ?_; first
      | refine G_indexA rfl rfl (by first | decide | omega) rfl ?_
      | refine G_indexP rfl rfl (by first | assumption | omega) rfl ?_)
    | (refine Is_un ?_; refine G_not rfl rfl ?_)
    | (refine Is_makeFunc ?_; refine G_makeFunc rfl rfl rfl ?_)
    | (refine Is_extract ?_; refine G_extract rfl rfl rfl ?_)
    | (refine Is_guard ?_; first
      | refine G_guard_yes (by rw [hops.eq]; rfl) rfl (by simp) ?_
      | refine G_guard_no (by rw [hops.eq]; rfl) rfl rfl rfl ?_)
    | (refine Is_pick ?_; first
      | refine G_pick_t rfl rfl rfl ?_
      | refine G_pick_f rfl rfl rfl ?_)
    | refine GC_cond_t rfl ?_
    | refine GC_cond_f rfl ?_
    | refine GC_seq ?_
    | refine GC_region (fun ops hops => ?_)
    | (refine G_nil ?_; try clear hops; try clear ops)
    | refine At_then ?_
    | refine GC_skip ?_
    | refine GC_block ?_
    | refine GC_exit ?_
    | refine GC_ret ?_
    | refine At_then_exit ?_
    | refine At_then_ret ?_
    | refine At_block ?_
    | refine At_block_ret ?_
    | refine At_block_hit ?_
    | refine At_block_miss rfl ?_
    | refine At_round_exit ?_
    | refine At_round_ret ?_))
             exact X_done rfl (List.Sublist.refl _))
        have key := hl' ▸ dbytes_one bs i hil x 0x6279746573#64
        have b8 : ((bs[i].toNat : Int) = l'[i].toNat) ↔ bs[i] = x := by
          rw [hxi]
          exact ⟨fun h => BitVec.eq_of_toNat_eq (by omega), fun h => by rw [h]⟩
        rw [decs (nat_eqq.trans (key.trans b8.symm))]
        repeat
          apply DR_x rfl rfl rfl
          (· intro mm
             (repeat (first
    | (refine Is_move ?_; refine G_move rfl rfl ?_)
    | (refine Is_assign ?_; refine G_assign rfl rfl ?_)
    | (refine Is_bin ?_; first
      | refine G_lss_t rfl rfl (by omega) rfl ?_
      | refine G_lss_f rfl rfl (by omega) rfl ?_
      | refine G_lss rfl rfl rfl ?_
      | refine G_add rfl rfl rfl (by first | exact IntWalk.i64_in _ (by omega) | rfl) ?_
      | refine G_eql_t rfl rfl (by first | with_reducible rfl | assumption | decide +kernel | omega) rfl ?_
      | refine G_eql_f rfl rfl (by first | decide +kernel | omega | assumption) rfl ?_
      | refine G_eql rfl rfl rfl ?_
      | refine G_neq_f rfl rfl (by first | with_reducible rfl | assumption | decide +kernel | omega) rfl ?_
      | refine G_neq_t rfl rfl (by first | decide +kernel | omega | assumption) rfl ?_
      | refine G_neq rfl rfl rfl ?_
      | refine G_leq_t rfl rfl (by omega) rfl ?_
      | refine G_leq_f rfl rfl (by omega) rfl ?_
      | refine G_leq rfl rfl rfl ?_
      | refine G_gtr_t rfl rfl (by omega) rfl ?_
      | refine G_gtr_f rfl rfl (by omega) rfl ?_
      | refine G_gtr rfl rfl rfl ?_
      | refine G_geq_t rfl rfl (by omega) rfl ?_
      | refine G_geq_f rfl rfl (by omega) rfl ?_
      | refine G_geq rfl rfl rfl ?_
      | refine G_sub rfl rfl rfl (by first | exact IntWalk.i64_in _ (by omega) | rfl) ?_
      | refine G_mul rfl rfl rfl (by first | exact IntWalk.i64_in _ (by omega) | rfl) ?_
      | refine G_xor64 rfl rfl rfl ?_
      | refine G_mul64 rfl rfl rfl ?_
      | refine G_or64 rfl rfl rfl ?_
      | refine G_and64 rfl rfl rfl ?_
      | refine G_add64 rfl rfl rfl ?_
      | refine G_sub64 rfl rfl rfl ?_
      | refine G_shr64 rfl rfl rfl rfl ?_
      | refine G_shl64 rfl rfl rfl rfl ?_
      | refine G_eqlB rfl rfl rfl ?_
      | refine G_neqB rfl rfl rfl ?_)
    | (refine Is_load ?_; first
      | refine G_load rfl rfl rfl ?_
      | refine G_load_cell rfl (by first | assumption | (apply_assumption; done) | fail) rfl ?_)
    | (refine Is_store ?_; refine G_store rfl rfl rfl rfl rfl ?_)
    | (refine Is_builtin ?_; first
      | refine G_len rfl rfl ?_)
    | (refine Is_nilCheck ?_; refine G_nilCheck rfl rfl ?_)
    | (refine Is_convert ?_; first
      | refine G_u64_int rfl rfl ?_
      | refine G_to_u64 rfl rfl ?_
      | refine G_conv _ rfl rfl (by first | exact IntWalk.i64_in _ (by omega) | rfl) ?_)
    | (refine Is_fieldAddr ?_; refine G_fieldOff rfl rfl ?_)
    | (refine Is_indexAddr ?_; first
      | refine G_indexA rfl rfl (by first | decide | omega) rfl ?_
      | refine G_indexP rfl rfl (by first | assumption | omega) rfl ?_)
    | (refine Is_un ?_; refine G_not rfl rfl ?_)
    | (refine Is_makeFunc ?_; refine G_makeFunc rfl rfl rfl ?_)
    | (refine Is_extract ?_; refine G_extract rfl rfl rfl ?_)
    | (refine Is_guard ?_; first
      | refine G_guard_yes (by rw [hops.eq]; rfl) rfl (by simp) ?_
      | refine G_guard_no (by rw [hops.eq]; rfl) rfl rfl rfl ?_)
    | (refine Is_pick ?_; first
      | refine G_pick_t rfl rfl rfl ?_
      | refine G_pick_f rfl rfl rfl ?_)
    | refine GC_cond_t rfl ?_
    | refine GC_cond_f rfl ?_
    | refine GC_seq ?_
    | refine GC_region (fun ops hops => ?_)
    | (refine G_nil ?_; try clear hops; try clear ops)
    | refine At_then ?_
    | refine GC_skip ?_
    | refine GC_block ?_
    | refine GC_exit ?_
    | refine GC_ret ?_
    | refine At_then_exit ?_
    | refine At_then_ret ?_
    | refine At_block ?_
    | refine At_block_ret ?_
    | refine At_block_hit ?_
    | refine At_block_miss rfl ?_
    | refine At_round_exit ?_
    | refine At_round_ret ?_))
             exact X_done rfl (List.Sublist.refl _))
        refine DR_nil rfl ?_
        repeat (first
    | (refine Is_move ?_; refine G_move rfl rfl ?_)
    | (refine Is_assign ?_; refine G_assign rfl rfl ?_)
    | (refine Is_bin ?_; first
      | refine G_lss_t rfl rfl (by omega) rfl ?_
      | refine G_lss_f rfl rfl (by omega) rfl ?_
      | refine G_lss rfl rfl rfl ?_
      | refine G_add rfl rfl rfl (by first | exact IntWalk.i64_in _ (by omega) | rfl) ?_
      | refine G_eql_t rfl rfl (by first | with_reducible rfl | assumption | decide +kernel | omega) rfl ?_
      | refine G_eql_f rfl rfl (by first | decide +kernel | omega | assumption) rfl ?_
      | refine G_eql rfl rfl rfl ?_
      | refine G_neq_f rfl rfl (by first | with_reducible rfl | assumption | decide +kernel | omega) rfl ?_
      | refine G_neq_t rfl rfl (by first | decide +kernel | omega | assumption) rfl ?_
      | refine G_neq rfl rfl rfl ?_
      | refine G_leq_t rfl rfl (by omega) rfl ?_
      | refine G_leq_f rfl rfl (by omega) rfl ?_
      | refine G_leq rfl rfl rfl ?_
      | refine G_gtr_t rfl rfl (by omega) rfl ?_
      | refine G_gtr_f rfl rfl (by omega) rfl ?_
      | refine G_gtr rfl rfl rfl ?_
      | refine G_geq_t rfl rfl (by omega) rfl ?_
      | refine G_geq_f rfl rfl (by omega) rfl ?_
      | refine G_geq rfl rfl rfl ?_
      | refine G_sub rfl rfl rfl (by first | exact IntWalk.i64_in _ (by omega) | rfl) ?_
      | refine G_mul rfl rfl rfl (by first | exact IntWalk.i64_in _ (by omega) | rfl) ?_
      | refine G_xor64 rfl rfl rfl ?_
      | refine G_mul64 rfl rfl rfl ?_
      | refine G_or64 rfl rfl rfl ?_
      | refine G_and64 rfl rfl rfl ?_
      | refine G_add64 rfl rfl rfl ?_
      | refine G_sub64 rfl rfl rfl ?_
      | refine G_shr64 rfl rfl rfl rfl ?_
      | refine G_shl64 rfl rfl rfl rfl ?_
      | refine G_eqlB rfl rfl rfl ?_
      | refine G_neqB rfl rfl rfl ?_)
    | (refine Is_load ?_; first
      | refine G_load rfl rfl rfl ?_
      | refine G_load_cell rfl (by first | assumption | (apply_assumption; done) | fail) rfl ?_)
    | (refine Is_store ?_; refine G_store rfl rfl rfl rfl rfl ?_)
    | (refine Is_builtin ?_; first
      | refine G_len rfl rfl ?_)
    | (refine Is_nilCheck ?_; refine G_nilCheck rfl rfl ?_)
    | (refine Is_convert ?_; first
      | refine G_u64_int rfl rfl ?_
      | refine G_to_u64 rfl rfl ?_
      | refine G_conv _ rfl rfl (by first | exact IntWalk.i64_in _ (by omega) | rfl) ?_)
    | (refine Is_fieldAddr ?_; refine G_fieldOff rfl rfl ?_)
    | (refine Is_indexAddr ?_; first
      | refine G_indexA rfl rfl (by first | decide | omega) rfl ?_
      | refine G_indexP rfl rfl (by first | assumption | omega) rfl ?_)
    | (refine Is_un ?_; refine G_not rfl rfl ?_)
    | (refine Is_makeFunc ?_; refine G_makeFunc rfl rfl rfl ?_)
    | (refine Is_extract ?_; refine G_extract rfl rfl rfl ?_)
    | (refine Is_guard ?_; first
      | refine G_guard_yes (by rw [hops.eq]; rfl) rfl (by simp) ?_
      | refine G_guard_no (by rw [hops.eq]; rfl) rfl rfl rfl ?_)
    | (refine Is_pick ?_; first
      | refine G_pick_t rfl rfl rfl ?_
      | refine G_pick_f rfl rfl rfl ?_)
    | refine GC_cond_t rfl ?_
    | refine GC_cond_f rfl ?_
    | refine GC_seq ?_
    | refine GC_region (fun ops hops => ?_)
    | (refine G_nil ?_; try clear hops; try clear ops)
    | refine At_then ?_
    | refine GC_skip ?_
    | refine GC_block ?_
    | refine GC_exit ?_
    | refine GC_ret ?_
    | refine At_then_exit ?_
    | refine At_then_ret ?_
    | refine At_block ?_
    | refine At_block_ret ?_
    | refine At_block_hit ?_
    | refine At_block_miss rfl ?_
    | refine At_round_exit ?_
    | refine At_round_ret ?_)
        exact At_cut ⟨rfl, trivial⟩ (by simp)
      · repeat (first
    | (refine Is_move ?_; refine G_move rfl rfl ?_)
    | (refine Is_assign ?_; refine G_assign rfl rfl ?_)
    | (refine Is_bin ?_; first
      | refine G_lss_t rfl rfl (by omega) rfl ?_
      | refine G_lss_f rfl rfl (by omega) rfl ?_
      | refine G_lss rfl rfl rfl ?_
      | refine G_add rfl rfl rfl (by first | exact IntWalk.i64_in _ (by omega) | rfl) ?_
      | refine G_eql_t rfl rfl (by first | with_reducible rfl | assumption | decide +kernel | omega) rfl ?_
      | refine G_eql_f rfl rfl (by first | decide +kernel | omega | assumption) rfl ?_
      | refine G_eql rfl rfl rfl ?_
      | refine G_neq_f rfl rfl (by first | with_reducible rfl | assumption | decide +kernel | omega) rfl ?_
      | refine G_neq_t rfl rfl (by first | decide +kernel | omega | assumption) rfl ?_
      | refine G_neq rfl rfl rfl ?_
      | refine G_leq_t rfl rfl (by omega) rfl ?_
      | refine G_leq_f rfl rfl (by omega) rfl ?_
      | refine G_leq rfl rfl rfl ?_
      | refine G_gtr_t rfl rfl (by omega) rfl ?_
      | refine G_gtr_f rfl rfl (by omega) rfl ?_
      | refine G_gtr rfl rfl rfl ?_
      | refine G_geq_t rfl rfl (by omega) rfl ?_
      | refine G_geq_f rfl rfl (by omega) rfl ?_
      | refine G_geq rfl rfl rfl ?_
      | refine G_sub rfl rfl rfl (by first | exact IntWalk.i64_in _ (by omega) | rfl) ?_
      | refine G_mul rfl rfl rfl (by first | exact IntWalk.i64_in _ (by omega) | rfl) ?_
      | refine G_xor64 rfl rfl rfl ?_
      | refine G_mul64 rfl rfl rfl ?_
      | refine G_or64 rfl rfl rfl ?_
      | refine G_and64 rfl rfl rfl ?_
      | refine G_add64 rfl rfl rfl ?_
      | refine G_sub64 rfl rfl rfl ?_
      | refine G_shr64 rfl rfl rfl rfl ?_
      | refine G_shl64 rfl rfl rfl rfl ?_
      | refine G_eqlB rfl rfl rfl ?_
      | refine G_neqB rfl rfl rfl ?_)
    | (refine Is_load ?_; first
      | refine G_load rfl rfl rfl ?_
      | refine G_load_cell rfl (by first | assumption | (apply_assumption; done) | fail) rfl ?_)
    | (refine Is_store ?_; refine G_store rfl rfl rfl rfl rfl ?_)
    | (refine Is_builtin ?_; first
      | refine G_len rfl rfl ?_)
    | (refine Is_nilCheck ?_; refine G_nilCheck rfl rfl ?_)
    | (refine Is_convert ?_; first
      | refine G_u64_int rfl rfl ?_
      | refine G_to_u64 rfl rfl ?_
      | refine G_conv _ rfl rfl (by first | exact IntWalk.i64_in _ (by omega) | rfl) ?_)
    | (refine Is_fieldAddr ?_; refine G_fieldOff rfl rfl ?_)
    | (refine Is_indexAddr ?_; first
      | refine G_indexA rfl rfl (by first | decide | omega) rfl ?_
      | refine G_indexP rfl rfl (by first | assumption | omega) rfl ?_)
    | (refine Is_un ?_; refine G_not rfl rfl ?_)
    | (refine Is_makeFunc ?_; refine G_makeFunc rfl rfl rfl ?_)
    | (refine Is_extract ?_; refine G_extract rfl rfl rfl ?_)
    | (refine Is_guard ?_; first
      | refine G_guard_yes (by rw [hops.eq]; rfl) rfl (by simp) ?_
      | refine G_guard_no (by rw [hops.eq]; rfl) rfl rfl rfl ?_)
    | (refine Is_pick ?_; first
      | refine G_pick_t rfl rfl rfl ?_
      | refine G_pick_f rfl rfl rfl ?_)
    | refine GC_cond_t rfl ?_
    | refine GC_cond_f rfl ?_
    | refine GC_seq ?_
    | refine GC_region (fun ops hops => ?_)
    | (refine G_nil ?_; try clear hops; try clear ops)
    | refine At_then ?_
    | refine GC_skip ?_
    | refine GC_block ?_
    | refine GC_exit ?_
    | refine GC_ret ?_
    | refine At_then_exit ?_
    | refine At_then_ret ?_
    | refine At_block ?_
    | refine At_block_ret ?_
    | refine At_block_hit ?_
    | refine At_block_miss rfl ?_
    | refine At_round_exit ?_
    | refine At_round_ret ?_)
        exact At_cut ⟨rfl, trivial⟩ (by simp)
    · repeat (first
    | (refine Is_move ?_; refine G_move rfl rfl ?_)
    | (refine Is_assign ?_; refine G_assign rfl rfl ?_)
    | (refine Is_bin ?_; first
      | refine G_lss_t rfl rfl (by omega) rfl ?_
      | refine G_lss_f rfl rfl (by omega) rfl ?_
      | refine G_lss rfl rfl rfl ?_
      | refine G_add rfl rfl rfl (by first | exact IntWalk.i64_in _ (by omega) | rfl) ?_
      | refine G_eql_t rfl rfl (by first | with_reducible rfl | assumption | decide +kernel | omega) rfl ?_
      | refine G_eql_f rfl rfl (by first | decide +kernel | omega | assumption) rfl ?_
      | refine G_eql rfl rfl rfl ?_
      | refine G_neq_f rfl rfl (by first | with_reducible rfl | assumption | decide +kernel | omega) rfl ?_
      | refine G_neq_t rfl rfl (by first | decide +kernel | omega | assumption) rfl ?_
      | refine G_neq rfl rfl rfl ?_
      | refine G_leq_t rfl rfl (by omega) rfl ?_
      | refine G_leq_f rfl rfl (by omega) rfl ?_
      | refine G_leq rfl rfl rfl ?_
      | refine G_gtr_t rfl rfl (by omega) rfl ?_
      | refine G_gtr_f rfl rfl (by omega) rfl ?_
      | refine G_gtr rfl rfl rfl ?_
      | refine G_geq_t rfl rfl (by omega) rfl ?_
      | refine G_geq_f rfl rfl (by omega) rfl ?_
      | refine G_geq rfl rfl rfl ?_
      | refine G_sub rfl rfl rfl (by first | exact IntWalk.i64_in _ (by omega) | rfl) ?_
      | refine G_mul rfl rfl rfl (by first | exact IntWalk.i64_in _ (by omega) | rfl) ?_
      | refine G_xor64 rfl rfl rfl ?_
      | refine G_mul64 rfl rfl rfl ?_
      | refine G_or64 rfl rfl rfl ?_
      | refine G_and64 rfl rfl rfl ?_
      | refine G_add64 rfl rfl rfl ?_
      | refine G_sub64 rfl rfl rfl ?_
      | refine G_shr64 rfl rfl rfl rfl ?_
      | refine G_shl64 rfl rfl rfl rfl ?_
      | refine G_eqlB rfl rfl rfl ?_
      | refine G_neqB rfl rfl rfl ?_)
    | (refine Is_load ?_; first
      | refine G_load rfl rfl rfl ?_
      | refine G_load_cell rfl (by first | assumption | (apply_assumption; done) | fail) rfl ?_)
    | (refine Is_store ?_; refine G_store rfl rfl rfl rfl rfl ?_)
    | (refine Is_builtin ?_; first
      | refine G_len rfl rfl ?_)
    | (refine Is_nilCheck ?_; refine G_nilCheck rfl rfl ?_)
    | (refine Is_convert ?_; first
      | refine G_u64_int rfl rfl ?_
      | refine G_to_u64 rfl rfl ?_
      | refine G_conv _ rfl rfl (by first | exact IntWalk.i64_in _ (by omega) | rfl) ?_)
    | (refine Is_fieldAddr ?_; refine G_fieldOff rfl rfl ?_)
    | (refine Is_indexAddr ?_; first
      | refine G_indexA rfl rfl (by first | decide | omega) rfl ?_
      | refine G_indexP rfl rfl (by first | assumption | omega) rfl ?_)
    | (refine Is_un ?_; refine G_not rfl rfl ?_)
    | (refine Is_makeFunc ?_; refine G_makeFunc rfl rfl rfl ?_)
    | (refine Is_extract ?_; refine G_extract rfl rfl rfl ?_)
    | (refine Is_guard ?_; first
      | refine G_guard_yes (by rw [hops.eq]; rfl) rfl (by simp) ?_
      | refine G_guard_no (by rw [hops.eq]; rfl) rfl rfl rfl ?_)
    | (refine Is_pick ?_; first
      | refine G_pick_t rfl rfl rfl ?_
      | refine G_pick_f rfl rfl rfl ?_)
    | refine GC_cond_t rfl ?_
    | refine GC_cond_f rfl ?_
    | refine GC_seq ?_
    | refine GC_region (fun ops hops => ?_)
    | (refine G_nil ?_; try clear hops; try clear ops)
    | refine At_then ?_
    | refine GC_skip ?_
    | refine GC_block ?_
    | refine GC_exit ?_
    | refine GC_ret ?_
    | refine At_then_exit ?_
    | refine At_then_ret ?_
    | refine At_block ?_
    | refine At_block_ret ?_
    | refine At_block_hit ?_
    | refine At_block_miss rfl ?_
    | refine At_round_exit ?_
    | refine At_round_ret ?_)
      exact ret_one rfl rfl fun w' h' => ⟨rfl, h'⟩
end Go.Proofs.Ytcmjfmofaligfaa
