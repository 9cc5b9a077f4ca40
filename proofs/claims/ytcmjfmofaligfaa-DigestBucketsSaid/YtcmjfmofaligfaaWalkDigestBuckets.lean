/- The walk of DigestBuckets. -/
import Derived.Test.YtcmjfmofaligfaaDigG
set_option linter.unusedVariables false
set_option linter.unusedSimpArgs false
set_option maxRecDepth 100000
namespace Go.Proofs.Ytcmjfmofaligfaa
open Go.RowKit
attribute [local irreducible] G GC At wpL DR XPost CPost

theorem bucket_out (d : BitVec 64) (n : Int) (hn0 : -9223372036854775808 ≤ n) (hn1 : n ≤ 9223372036854775807) (h : n < 1 ∨ 1000000 < n) (w : World) :
    Calls Try.prog 20 #[U d, I n] w (Is w (.agg [I 0, I 1].toArray)) := by
  have := law_bucket d n hn0 hn1 w
  rwa [if_pos h, if_pos h] at this
theorem bucket_in (d : BitVec 64) (n : Int) (h0 : 1 ≤ n) (h1 : n ≤ 1000000) (w : World) :
    Calls Try.prog 20 #[U d, I n] w (Is w (.agg [I (bkt d n), I 0].toArray)) := by
  have := law_bucket d n (by omega) (by omega) w
  rwa [if_neg (by omega), if_neg (by omega)] at this

theorem bkt_bounds (d : BitVec 64) (n : Int) (h : 1 ≤ n) : 0 ≤ bkt d n ∧ bkt d n < n := by
  unfold bkt
  exact ⟨Int.emod_nonneg _ (by omega), Int.emod_lt_of_pos _ (by omega)⟩

theorem bkt_xor (d x : BitVec 64) (n : Int) (h : x.toNat < 4294967296) : bkt (d ^^^ x) n = bkt d n := by
  unfold bkt
  have e : (d ^^^ x).toNat / 4294967296 = d.toNat / 4294967296 := by
    rw [← shr_nat, ← shr_nat]
    congr 1
    have hx : x >>> 32 = 0#64 := by
      apply BitVec.eq_of_toNat_eq
      rw [shr_nat]
      simp
      omega
    apply BitVec.eq_of_getLsbD_eq
    intro i hi
    have := congrArg (fun y : BitVec 64 => y.getLsbD i) hx
    simp only [BitVec.getLsbD_ushiftRight, BitVec.getLsbD_xor, BitVec.getLsbD_zero] at this ⊢
    rw [this]
    simp
  rw [e]

theorem bkt_mul (d : BitVec 64) (n m : Int) : bkt d (n * m) % n = bkt d n := by
  unfold bkt
  exact Int.emod_emod_of_dvd _ (Int.dvd_mul_right n m)

theorem walk_DigestBuckets (d : BitVec 64) (n : Int) (hn0 : -9223372036854775808 ≤ n) (hn1 : n ≤ 9223372036854775807) (k : BitVec 8) (w : World) :
    Calls Try.prog 7 #[U d, I n, B8 k] w (Is w (.bool true)) := by
  have hk := k.isLt
  refine enter (N := 91) (args := [U d, I n, B8 k]) Try.func7 rfl rfl rfl (St.refl w) ?_
  repeat (first
    | (refine Is_move ?_; refine G_move rfl rfl ?_)
    | (refine Is_assign ?_; refine G_assign rfl rfl ?_)
    | (refine Is_bin ?_; first
      | refine G_lss_t rfl rfl (by omega) rfl ?_
      | refine G_lss_f rfl rfl (by omega) rfl ?_
      | refine G_lss rfl rfl rfl ?_
      | refine G_add rfl rfl rfl (by first | exact IntWalk.i64_in _ (by omega) | rfl) ?_
      | refine G_eql_t rfl rfl (by first | assumption | with_reducible rfl | decide +kernel | omega) rfl ?_
      | refine G_eql_f rfl rfl (by first | decide +kernel | omega | assumption) rfl ?_
      | refine G_eql rfl rfl rfl ?_
      | refine G_neq_f rfl rfl (by first | assumption | with_reducible rfl | decide +kernel | omega) rfl ?_
      | refine G_neq_t rfl rfl (by first | decide +kernel | omega | assumption) rfl ?_
      | refine G_neq rfl rfl rfl ?_
      | refine G_leq_t rfl rfl (by omega) rfl ?_
      | refine G_leq_f rfl rfl (by omega) rfl ?_
      | refine G_leq rfl rfl rfl ?_
      | refine G_gtr_t rfl rfl (by omega) rfl ?_
      | refine G_gtr_f rfl rfl (by omega) rfl ?_
      | refine G_gtr rfl rfl rfl ?_
      | refine G_geq_t rfl rfl (by omega) rfl ?_
      | refine G_geq_f rfl rfl (by omega) rfl ?_
      | refine G_geq rfl rfl rfl ?_
      | refine G_sub rfl rfl rfl (by first | exact IntWalk.i64_in _ (by omega) | rfl) ?_
      | refine G_mul rfl rfl rfl (by first | exact IntWalk.i64_in _ (by omega) | rfl) ?_
      | refine G_xor64 rfl rfl rfl ?_
      | refine G_mul64 rfl rfl rfl ?_
      | refine G_or64 rfl rfl rfl ?_
      | refine G_and64 rfl rfl rfl ?_
      | refine G_add64 rfl rfl rfl ?_
      | refine G_sub64 rfl rfl rfl ?_
      | refine G_shr64 rfl rfl rfl rfl ?_
      | refine G_shl64 rfl rfl rfl rfl ?_)
    | (refine Is_load ?_; first
      | refine G_load rfl rfl rfl ?_
      | refine G_load_cell rfl (by first | assumption | apply_assumption) rfl ?_)
    | (refine Is_store ?_; refine G_store rfl rfl rfl rfl rfl ?_)
    | (refine Is_builtin ?_; first
      | refine G_len rfl rfl ?_)
    | (refine Is_nilCheck ?_; refine G_nilCheck rfl rfl ?_)
    | (refine Is_convert ?_; first
      | refine G_u64_int rfl rfl ?_
      | refine G_to_u64 rfl rfl ?_
      | refine G_conv _ rfl rfl (by first | exact IntWalk.i64_in _ (by omega) | rfl) ?_)
    | (refine Is_fieldAddr ?_; refine G_fieldOff rfl rfl ?_)
    | (refine Is_indexAddr ?_; refine G_indexA rfl rfl (by first | decide | omega) rfl ?_)
    | (refine Is_un ?_; refine G_not rfl rfl ?_)
    | (refine Is_makeFunc ?_; refine G_makeFunc rfl rfl rfl ?_)
    | (refine Is_extract ?_; refine G_extract rfl rfl rfl ?_)
    | (refine Is_guard ?_; first
      | refine G_guard_yes (by rw [hops.eq]; rfl) rfl (by simp) ?_
      | refine G_guard_no (by rw [hops.eq]; rfl) rfl rfl rfl ?_)
    | (refine Is_pick ?_; first
      | refine G_pick_t rfl rfl rfl ?_
      | refine G_pick_f rfl rfl rfl ?_)
    | refine GC_cond_t rfl ?_
    | refine GC_cond_f rfl ?_
    | refine GC_seq ?_
    | refine GC_region (fun ops hops => ?_)
    | (refine G_nil ?_; try clear hops; try clear ops)
    | refine At_then ?_
    | refine GC_skip ?_
    | refine GC_block ?_
    | refine GC_exit ?_
    | refine GC_ret ?_
    | refine At_then_exit ?_
    | refine At_then_ret ?_
    | refine At_block ?_
    | refine At_block_ret ?_
    | refine At_block_hit ?_
    | refine At_block_miss rfl ?_
    | refine At_round_exit ?_
    | refine At_round_ret ?_)
  refine G_call rfl (fun w1 _ => law_examples w1) rfl ?_
  repeat (first
    | (refine Is_move ?_; refine G_move rfl rfl ?_)
    | (refine Is_assign ?_; refine G_assign rfl rfl ?_)
    | (refine Is_bin ?_; first
      | refine G_lss_t rfl rfl (by omega) rfl ?_
      | refine G_lss_f rfl rfl (by omega) rfl ?_
      | refine G_lss rfl rfl rfl ?_
      | refine G_add rfl rfl rfl (by first | exact IntWalk.i64_in _ (by omega) | rfl) ?_
      | refine G_eql_t rfl rfl (by first | assumption | with_reducible rfl | decide +kernel | omega) rfl ?_
      | refine G_eql_f rfl rfl (by first | decide +kernel | omega | assumption) rfl ?_
      | refine G_eql rfl rfl rfl ?_
      | refine G_neq_f rfl rfl (by first | assumption | with_reducible rfl | decide +kernel | omega) rfl ?_
      | refine G_neq_t rfl rfl (by first | decide +kernel | omega | assumption) rfl ?_
      | refine G_neq rfl rfl rfl ?_
      | refine G_leq_t rfl rfl (by omega) rfl ?_
      | refine G_leq_f rfl rfl (by omega) rfl ?_
      | refine G_leq rfl rfl rfl ?_
      | refine G_gtr_t rfl rfl (by omega) rfl ?_
      | refine G_gtr_f rfl rfl (by omega) rfl ?_
      | refine G_gtr rfl rfl rfl ?_
      | refine G_geq_t rfl rfl (by omega) rfl ?_
      | refine G_geq_f rfl rfl (by omega) rfl ?_
      | refine G_geq rfl rfl rfl ?_
      | refine G_sub rfl rfl rfl (by first | exact IntWalk.i64_in _ (by omega) | rfl) ?_
      | refine G_mul rfl rfl rfl (by first | exact IntWalk.i64_in _ (by omega) | rfl) ?_
      | refine G_xor64 rfl rfl rfl ?_
      | refine G_mul64 rfl rfl rfl ?_
      | refine G_or64 rfl rfl rfl ?_
      | refine G_and64 rfl rfl rfl ?_
      | refine G_add64 rfl rfl rfl ?_
      | refine G_sub64 rfl rfl rfl ?_
      | refine G_shr64 rfl rfl rfl rfl ?_
      | refine G_shl64 rfl rfl rfl rfl ?_)
    | (refine Is_load ?_; first
      | refine G_load rfl rfl rfl ?_
      | refine G_load_cell rfl (by first | assumption | apply_assumption) rfl ?_)
    | (refine Is_store ?_; refine G_store rfl rfl rfl rfl rfl ?_)
    | (refine Is_builtin ?_; first
      | refine G_len rfl rfl ?_)
    | (refine Is_nilCheck ?_; refine G_nilCheck rfl rfl ?_)
    | (refine Is_convert ?_; first
      | refine G_u64_int rfl rfl ?_
      | refine G_to_u64 rfl rfl ?_
      | refine G_conv _ rfl rfl (by first | exact IntWalk.i64_in _ (by omega) | rfl) ?_)
    | (refine Is_fieldAddr ?_; refine G_fieldOff rfl rfl ?_)
    | (refine Is_indexAddr ?_; refine G_indexA rfl rfl (by first | decide | omega) rfl ?_)
    | (refine Is_un ?_; refine G_not rfl rfl ?_)
    | (refine Is_makeFunc ?_; refine G_makeFunc rfl rfl rfl ?_)
    | (refine Is_extract ?_; refine G_extract rfl rfl rfl ?_)
    | (refine Is_guard ?_; first
      | refine G_guard_yes (by rw [hops.eq]; rfl) rfl (by simp) ?_
      | refine G_guard_no (by rw [hops.eq]; rfl) rfl rfl rfl ?_)
    | (refine Is_pick ?_; first
      | refine G_pick_t rfl rfl rfl ?_
      | refine G_pick_f rfl rfl rfl ?_)
    | refine GC_cond_t rfl ?_
    | refine GC_cond_f rfl ?_
    | refine GC_seq ?_
    | refine GC_region (fun ops hops => ?_)
    | (refine G_nil ?_; try clear hops; try clear ops)
    | refine At_then ?_
    | refine GC_skip ?_
    | refine GC_block ?_
    | refine GC_exit ?_
    | refine GC_ret ?_
    | refine At_then_exit ?_
    | refine At_then_ret ?_
    | refine At_block ?_
    | refine At_block_ret ?_
    | refine At_block_hit ?_
    | refine At_block_miss rfl ?_
    | refine At_round_exit ?_
    | refine At_round_ret ?_)
  by_cases h : n < 1 ∨ 1000000 < n
  · refine G_call rfl (fun w1 _ => bucket_out d n hn0 hn1 h w1) rfl ?_
    (refine G_allocA  rfl ?_; intro b)
    (refine G_storeA (vs := [I 0,I 1]) rfl rfl rfl rfl rfl ?_)
    by_cases h1 : n < 1
    · repeat (first
    | (refine Is_move ?_; refine G_move rfl rfl ?_)
    | (refine Is_assign ?_; refine G_assign rfl rfl ?_)
    | (refine Is_bin ?_; first
      | refine G_lss_t rfl rfl (by omega) rfl ?_
      | refine G_lss_f rfl rfl (by omega) rfl ?_
      | refine G_lss rfl rfl rfl ?_
      | refine G_add rfl rfl rfl (by first | exact IntWalk.i64_in _ (by omega) | rfl) ?_
      | refine G_eql_t rfl rfl (by first | assumption | with_reducible rfl | decide +kernel | omega) rfl ?_
      | refine G_eql_f rfl rfl (by first | decide +kernel | omega | assumption) rfl ?_
      | refine G_eql rfl rfl rfl ?_
      | refine G_neq_f rfl rfl (by first | assumption | with_reducible rfl | decide +kernel | omega) rfl ?_
      | refine G_neq_t rfl rfl (by first | decide +kernel | omega | assumption) rfl ?_
      | refine G_neq rfl rfl rfl ?_
      | refine G_leq_t rfl rfl (by omega) rfl ?_
      | refine G_leq_f rfl rfl (by omega) rfl ?_
      | refine G_leq rfl rfl rfl ?_
      | refine G_gtr_t rfl rfl (by omega) rfl ?_
      | refine G_gtr_f rfl rfl (by omega) rfl ?_
      | refine G_gtr rfl rfl rfl ?_
      | refine G_geq_t rfl rfl (by omega) rfl ?_
      | refine G_geq_f rfl rfl (by omega) rfl ?_
      | refine G_geq rfl rfl rfl ?_
      | refine G_sub rfl rfl rfl (by first | exact IntWalk.i64_in _ (by omega) | rfl) ?_
      | refine G_mul rfl rfl rfl (by first | exact IntWalk.i64_in _ (by omega) | rfl) ?_
      | refine G_xor64 rfl rfl rfl ?_
      | refine G_mul64 rfl rfl rfl ?_
      | refine G_or64 rfl rfl rfl ?_
      | refine G_and64 rfl rfl rfl ?_
      | refine G_add64 rfl rfl rfl ?_
      | refine G_sub64 rfl rfl rfl ?_
      | refine G_shr64 rfl rfl rfl rfl ?_
      | refine G_shl64 rfl rfl rfl rfl ?_)
    | (refine Is_load ?_; first
      | refine G_load rfl rfl rfl ?_
      | refine G_load_cell rfl (by first | assumption | apply_assumption) rfl ?_)
    | (refine Is_store ?_; refine G_store rfl rfl rfl rfl rfl ?_)
    | (refine Is_builtin ?_; first
      | refine G_len rfl rfl ?_)
    | (refine Is_nilCheck ?_; refine G_nilCheck rfl rfl ?_)
    | (refine Is_convert ?_; first
      | refine G_u64_int rfl rfl ?_
      | refine G_to_u64 rfl rfl ?_
      | refine G_conv _ rfl rfl (by first | exact IntWalk.i64_in _ (by omega) | rfl) ?_)
    | (refine Is_fieldAddr ?_; refine G_fieldOff rfl rfl ?_)
    | (refine Is_indexAddr ?_; refine G_indexA rfl rfl (by first | decide | omega) rfl ?_)
    | (refine Is_un ?_; refine G_not rfl rfl ?_)
    | (refine Is_makeFunc ?_; refine G_makeFunc rfl rfl rfl ?_)
    | (refine Is_extract ?_; refine G_extract rfl rfl rfl ?_)
    | (refine Is_guard ?_; first
      | refine G_guard_yes (by rw [hops.eq]; rfl) rfl (by simp) ?_
      | refine G_guard_no (by rw [hops.eq]; rfl) rfl rfl rfl ?_)
    | (refine Is_pick ?_; first
      | refine G_pick_t rfl rfl rfl ?_
      | refine G_pick_f rfl rfl rfl ?_)
    | refine GC_cond_t rfl ?_
    | refine GC_cond_f rfl ?_
    | refine GC_seq ?_
    | refine GC_region (fun ops hops => ?_)
    | (refine G_nil ?_; try clear hops; try clear ops)
    | refine At_then ?_
    | refine GC_skip ?_
    | refine GC_block ?_
    | refine GC_exit ?_
    | refine GC_ret ?_
    | refine At_then_exit ?_
    | refine At_then_ret ?_
    | refine At_block ?_
    | refine At_block_ret ?_
    | refine At_block_hit ?_
    | refine At_block_miss rfl ?_
    | refine At_round_exit ?_
    | refine At_round_ret ?_)
      refine G_loadA (vs := [I 0, I 1]) rfl rfl rfl rfl ?_
      refine G_build (v := .agg [I 0, I 1].toArray) rfl (fun _ => by kernel_rfl) rfl ?_
      refine Is_bin ?_
      refine G_eqlS (b := true) rfl rfl rfl rfl rfl rfl ?_
      repeat (first
    | (refine Is_move ?_; refine G_move rfl rfl ?_)
    | (refine Is_assign ?_; refine G_assign rfl rfl ?_)
    | (refine Is_bin ?_; first
      | refine G_lss_t rfl rfl (by omega) rfl ?_
      | refine G_lss_f rfl rfl (by omega) rfl ?_
      | refine G_lss rfl rfl rfl ?_
      | refine G_add rfl rfl rfl (by first | exact IntWalk.i64_in _ (by omega) | rfl) ?_
      | refine G_eql_t rfl rfl (by first | assumption | with_reducible rfl | decide +kernel | omega) rfl ?_
      | refine G_eql_f rfl rfl (by first | decide +kernel | omega | assumption) rfl ?_
      | refine G_eql rfl rfl rfl ?_
      | refine G_neq_f rfl rfl (by first | assumption | with_reducible rfl | decide +kernel | omega) rfl ?_
      | refine G_neq_t rfl rfl (by first | decide +kernel | omega | assumption) rfl ?_
      | refine G_neq rfl rfl rfl ?_
      | refine G_leq_t rfl rfl (by omega) rfl ?_
      | refine G_leq_f rfl rfl (by omega) rfl ?_
      | refine G_leq rfl rfl rfl ?_
      | refine G_gtr_t rfl rfl (by omega) rfl ?_
      | refine G_gtr_f rfl rfl (by omega) rfl ?_
      | refine G_gtr rfl rfl rfl ?_
      | refine G_geq_t rfl rfl (by omega) rfl ?_
      | refine G_geq_f rfl rfl (by omega) rfl ?_
      | refine G_geq rfl rfl rfl ?_
      | refine G_sub rfl rfl rfl (by first | exact IntWalk.i64_in _ (by omega) | rfl) ?_
      | refine G_mul rfl rfl rfl (by first | exact IntWalk.i64_in _ (by omega) | rfl) ?_
      | refine G_xor64 rfl rfl rfl ?_
      | refine G_mul64 rfl rfl rfl ?_
      | refine G_or64 rfl rfl rfl ?_
      | refine G_and64 rfl rfl rfl ?_
      | refine G_add64 rfl rfl rfl ?_
      | refine G_sub64 rfl rfl rfl ?_
      | refine G_shr64 rfl rfl rfl rfl ?_
      | refine G_shl64 rfl rfl rfl rfl ?_)
    | (refine Is_load ?_; first
      | refine G_load rfl rfl rfl ?_
      | refine G_load_cell rfl (by first | assumption | apply_assumption) rfl ?_)
    | (refine Is_store ?_; refine G_store rfl rfl rfl rfl rfl ?_)
    | (refine Is_builtin ?_; first
      | refine G_len rfl rfl ?_)
    | (refine Is_nilCheck ?_; refine G_nilCheck rfl rfl ?_)
    | (refine Is_convert ?_; first
      | refine G_u64_int rfl rfl ?_
      | refine G_to_u64 rfl rfl ?_
      | refine G_conv _ rfl rfl (by first | exact IntWalk.i64_in _ (by omega) | rfl) ?_)
    | (refine Is_fieldAddr ?_; refine G_fieldOff rfl rfl ?_)
    | (refine Is_indexAddr ?_; refine G_indexA rfl rfl (by first | decide | omega) rfl ?_)
    | (refine Is_un ?_; refine G_not rfl rfl ?_)
    | (refine Is_makeFunc ?_; refine G_makeFunc rfl rfl rfl ?_)
    | (refine Is_extract ?_; refine G_extract rfl rfl rfl ?_)
    | (refine Is_guard ?_; first
      | refine G_guard_yes (by rw [hops.eq]; rfl) rfl (by simp) ?_
      | refine G_guard_no (by rw [hops.eq]; rfl) rfl rfl rfl ?_)
    | (refine Is_pick ?_; first
      | refine G_pick_t rfl rfl rfl ?_
      | refine G_pick_f rfl rfl rfl ?_)
    | refine GC_cond_t rfl ?_
    | refine GC_cond_f rfl ?_
    | refine GC_seq ?_
    | refine GC_region (fun ops hops => ?_)
    | (refine G_nil ?_; try clear hops; try clear ops)
    | refine At_then ?_
    | refine GC_skip ?_
    | refine GC_block ?_
    | refine GC_exit ?_
    | refine GC_ret ?_
    | refine At_then_exit ?_
    | refine At_then_ret ?_
    | refine At_block ?_
    | refine At_block_ret ?_
    | refine At_block_hit ?_
    | refine At_block_miss rfl ?_
    | refine At_round_exit ?_
    | refine At_round_ret ?_)
      exact ret_one rfl rfl fun w' h' => ⟨rfl, h'.drop (by simp)⟩
    · have h2 : 1000000 < n := by omega
      repeat (first
    | (refine Is_move ?_; refine G_move rfl rfl ?_)
    | (refine Is_assign ?_; refine G_assign rfl rfl ?_)
    | (refine Is_bin ?_; first
      | refine G_lss_t rfl rfl (by omega) rfl ?_
      | refine G_lss_f rfl rfl (by omega) rfl ?_
      | refine G_lss rfl rfl rfl ?_
      | refine G_add rfl rfl rfl (by first | exact IntWalk.i64_in _ (by omega) | rfl) ?_
      | refine G_eql_t rfl rfl (by first | assumption | with_reducible rfl | decide +kernel | omega) rfl ?_
      | refine G_eql_f rfl rfl (by first | decide +kernel | omega | assumption) rfl ?_
      | refine G_eql rfl rfl rfl ?_
      | refine G_neq_f rfl rfl (by first | assumption | with_reducible rfl | decide +kernel | omega) rfl ?_
      | refine G_neq_t rfl rfl (by first | decide +kernel | omega | assumption) rfl ?_
      | refine G_neq rfl rfl rfl ?_
      | refine G_leq_t rfl rfl (by omega) rfl ?_
      | refine G_leq_f rfl rfl (by omega) rfl ?_
      | refine G_leq rfl rfl rfl ?_
      | refine G_gtr_t rfl rfl (by omega) rfl ?_
      | refine G_gtr_f rfl rfl (by omega) rfl ?_
      | refine G_gtr rfl rfl rfl ?_
      | refine G_geq_t rfl rfl (by omega) rfl ?_
      | refine G_geq_f rfl rfl (by omega) rfl ?_
      | refine G_geq rfl rfl rfl ?_
      | refine G_sub rfl rfl rfl (by first | exact IntWalk.i64_in _ (by omega) | rfl) ?_
      | refine G_mul rfl rfl rfl (by first | exact IntWalk.i64_in _ (by omega) | rfl) ?_
      | refine G_xor64 rfl rfl rfl ?_
      | refine G_mul64 rfl rfl rfl ?_
      | refine G_or64 rfl rfl rfl ?_
      | refine G_and64 rfl rfl rfl ?_
      | refine G_add64 rfl rfl rfl ?_
      | refine G_sub64 rfl rfl rfl ?_
      | refine G_shr64 rfl rfl rfl rfl ?_
      | refine G_shl64 rfl rfl rfl rfl ?_)
    | (refine Is_load ?_; first
      | refine G_load rfl rfl rfl ?_
      | refine G_load_cell rfl (by first | assumption | apply_assumption) rfl ?_)
    | (refine Is_store ?_; refine G_store rfl rfl rfl rfl rfl ?_)
    | (refine Is_builtin ?_; first
      | refine G_len rfl rfl ?_)
    | (refine Is_nilCheck ?_; refine G_nilCheck rfl rfl ?_)
    | (refine Is_convert ?_; first
      | refine G_u64_int rfl rfl ?_
      | refine G_to_u64 rfl rfl ?_
      | refine G_conv _ rfl rfl (by first | exact IntWalk.i64_in _ (by omega) | rfl) ?_)
    | (refine Is_fieldAddr ?_; refine G_fieldOff rfl rfl ?_)
    | (refine Is_indexAddr ?_; refine G_indexA rfl rfl (by first | decide | omega) rfl ?_)
    | (refine Is_un ?_; refine G_not rfl rfl ?_)
    | (refine Is_makeFunc ?_; refine G_makeFunc rfl rfl rfl ?_)
    | (refine Is_extract ?_; refine G_extract rfl rfl rfl ?_)
    | (refine Is_guard ?_; first
      | refine G_guard_yes (by rw [hops.eq]; rfl) rfl (by simp) ?_
      | refine G_guard_no (by rw [hops.eq]; rfl) rfl rfl rfl ?_)
    | (refine Is_pick ?_; first
      | refine G_pick_t rfl rfl rfl ?_
      | refine G_pick_f rfl rfl rfl ?_)
    | refine GC_cond_t rfl ?_
    | refine GC_cond_f rfl ?_
    | refine GC_seq ?_
    | refine GC_region (fun ops hops => ?_)
    | (refine G_nil ?_; try clear hops; try clear ops)
    | refine At_then ?_
    | refine GC_skip ?_
    | refine GC_block ?_
    | refine GC_exit ?_
    | refine GC_ret ?_
    | refine At_then_exit ?_
    | refine At_then_ret ?_
    | refine At_block ?_
    | refine At_block_ret ?_
    | refine At_block_hit ?_
    | refine At_block_miss rfl ?_
    | refine At_round_exit ?_
    | refine At_round_ret ?_)
      refine G_loadA (vs := [I 0, I 1]) rfl rfl rfl rfl ?_
      refine G_build (v := .agg [I 0, I 1].toArray) rfl (fun _ => by kernel_rfl) rfl ?_
      refine Is_bin ?_
      refine G_eqlS (b := true) rfl rfl rfl rfl rfl rfl ?_
      repeat (first
    | (refine Is_move ?_; refine G_move rfl rfl ?_)
    | (refine Is_assign ?_; refine G_assign rfl rfl ?_)
    | (refine Is_bin ?_; first
      | refine G_lss_t rfl rfl (by omega) rfl ?_
      | refine G_lss_f rfl rfl (by omega) rfl ?_
      | refine G_lss rfl rfl rfl ?_
      | refine G_add rfl rfl rfl (by first | exact IntWalk.i64_in _ (by omega) | rfl) ?_
      | refine G_eql_t rfl rfl (by first | assumption | with_reducible rfl | decide +kernel | omega) rfl ?_
      | refine G_eql_f rfl rfl (by first | decide +kernel | omega | assumption) rfl ?_
      | refine G_eql rfl rfl rfl ?_
      | refine G_neq_f rfl rfl (by first | assumption | with_reducible rfl | decide +kernel | omega) rfl ?_
      | refine G_neq_t rfl rfl (by first | decide +kernel | omega | assumption) rfl ?_
      | refine G_neq rfl rfl rfl ?_
      | refine G_leq_t rfl rfl (by omega) rfl ?_
      | refine G_leq_f rfl rfl (by omega) rfl ?_
      | refine G_leq rfl rfl rfl ?_
      | refine G_gtr_t rfl rfl (by omega) rfl ?_
      | refine G_gtr_f rfl rfl (by omega) rfl ?_
      | refine G_gtr rfl rfl rfl ?_
      | refine G_geq_t rfl rfl (by omega) rfl ?_
      | refine G_geq_f rfl rfl (by omega) rfl ?_
      | refine G_geq rfl rfl rfl ?_
      | refine G_sub rfl rfl rfl (by first | exact IntWalk.i64_in _ (by omega) | rfl) ?_
      | refine G_mul rfl rfl rfl (by first | exact IntWalk.i64_in _ (by omega) | rfl) ?_
      | refine G_xor64 rfl rfl rfl ?_
      | refine G_mul64 rfl rfl rfl ?_
      | refine G_or64 rfl rfl rfl ?_
      | refine G_and64 rfl rfl rfl ?_
      | refine G_add64 rfl rfl rfl ?_
      | refine G_sub64 rfl rfl rfl ?_
      | refine G_shr64 rfl rfl rfl rfl ?_
      | refine G_shl64 rfl rfl rfl rfl ?_)
    | (refine Is_load ?_; first
      | refine G_load rfl rfl rfl ?_
      | refine G_load_cell rfl (by first | assumption | apply_assumption) rfl ?_)
    | (refine Is_store ?_; refine G_store rfl rfl rfl rfl rfl ?_)
    | (refine Is_builtin ?_; first
      | refine G_len rfl rfl ?_)
    | (refine Is_nilCheck ?_; refine G_nilCheck rfl rfl ?_)
    | (refine Is_convert ?_; first
      | refine G_u64_int rfl rfl ?_
      | refine G_to_u64 rfl rfl ?_
      | refine G_conv _ rfl rfl (by first | exact IntWalk.i64_in _ (by omega) | rfl) ?_)
    | (refine Is_fieldAddr ?_; refine G_fieldOff rfl rfl ?_)
    | (refine Is_indexAddr ?_; refine G_indexA rfl rfl (by first | decide | omega) rfl ?_)
    | (refine Is_un ?_; refine G_not rfl rfl ?_)
    | (refine Is_makeFunc ?_; refine G_makeFunc rfl rfl rfl ?_)
    | (refine Is_extract ?_; refine G_extract rfl rfl rfl ?_)
    | (refine Is_guard ?_; first
      | refine G_guard_yes (by rw [hops.eq]; rfl) rfl (by simp) ?_
      | refine G_guard_no (by rw [hops.eq]; rfl) rfl rfl rfl ?_)
    | (refine Is_pick ?_; first
      | refine G_pick_t rfl rfl rfl ?_
      | refine G_pick_f rfl rfl rfl ?_)
    | refine GC_cond_t rfl ?_
    | refine GC_cond_f rfl ?_
    | refine GC_seq ?_
    | refine GC_region (fun ops hops => ?_)
    | (refine G_nil ?_; try clear hops; try clear ops)
    | refine At_then ?_
    | refine GC_skip ?_
    | refine GC_block ?_
    | refine GC_exit ?_
    | refine GC_ret ?_
    | refine At_then_exit ?_
    | refine At_then_ret ?_
    | refine At_block ?_
    | refine At_block_ret ?_
    | refine At_block_hit ?_
    | refine At_block_miss rfl ?_
    | refine At_round_exit ?_
    | refine At_round_ret ?_)
      exact ret_one rfl rfl fun w' h' => ⟨rfl, h'.drop (by simp)⟩
  · have g1 : 1 ≤ n := by omega
    have g2 : n ≤ 1000000 := by omega
    obtain ⟨b0, b1⟩ := bkt_bounds d n g1
    refine G_call rfl (fun w1 _ => bucket_in d n g1 g2 w1) rfl ?_
    (refine G_allocA  rfl ?_; intro b)
    (refine G_storeA (vs := [I (bkt d n),I 0]) rfl rfl rfl rfl rfl ?_)
    repeat (first
    | (refine Is_move ?_; refine G_move rfl rfl ?_)
    | (refine Is_assign ?_; refine G_assign rfl rfl ?_)
    | (refine Is_bin ?_; first
      | refine G_lss_t rfl rfl (by omega) rfl ?_
      | refine G_lss_f rfl rfl (by omega) rfl ?_
      | refine G_lss rfl rfl rfl ?_
      | refine G_add rfl rfl rfl (by first | exact IntWalk.i64_in _ (by omega) | rfl) ?_
      | refine G_eql_t rfl rfl (by first | assumption | with_reducible rfl | decide +kernel | omega) rfl ?_
      | refine G_eql_f rfl rfl (by first | decide +kernel | omega | assumption) rfl ?_
      | refine G_eql rfl rfl rfl ?_
      | refine G_neq_f rfl rfl (by first | assumption | with_reducible rfl | decide +kernel | omega) rfl ?_
      | refine G_neq_t rfl rfl (by first | decide +kernel | omega | assumption) rfl ?_
      | refine G_neq rfl rfl rfl ?_
      | refine G_leq_t rfl rfl (by omega) rfl ?_
      | refine G_leq_f rfl rfl (by omega) rfl ?_
      | refine G_leq rfl rfl rfl ?_
      | refine G_gtr_t rfl rfl (by omega) rfl ?_
      | refine G_gtr_f rfl rfl (by omega) rfl ?_
      | refine G_gtr rfl rfl rfl ?_
      | refine G_geq_t rfl rfl (by omega) rfl ?_
      | refine G_geq_f rfl rfl (by omega) rfl ?_
      | refine G_geq rfl rfl rfl ?_
      | refine G_sub rfl rfl rfl (by first | exact IntWalk.i64_in _ (by omega) | rfl) ?_
      | refine G_mul rfl rfl rfl (by first | exact IntWalk.i64_in _ (by omega) | rfl) ?_
      | refine G_xor64 rfl rfl rfl ?_
      | refine G_mul64 rfl rfl rfl ?_
      | refine G_or64 rfl rfl rfl ?_
      | refine G_and64 rfl rfl rfl ?_
      | refine G_add64 rfl rfl rfl ?_
      | refine G_sub64 rfl rfl rfl ?_
      | refine G_shr64 rfl rfl rfl rfl ?_
      | refine G_shl64 rfl rfl rfl rfl ?_)
    | (refine Is_load ?_; first
      | refine G_load rfl rfl rfl ?_
      | refine G_load_cell rfl (by first | assumption | apply_assumption) rfl ?_)
    | (refine Is_store ?_; refine G_store rfl rfl rfl rfl rfl ?_)
    | (refine Is_builtin ?_; first
      | refine G_len rfl rfl ?_)
    | (refine Is_nilCheck ?_; refine G_nilCheck rfl rfl ?_)
    | (refine Is_convert ?_; first
      | refine G_u64_int rfl rfl ?_
      | refine G_to_u64 rfl rfl ?_
      | refine G_conv _ rfl rfl (by first | exact IntWalk.i64_in _ (by omega) | rfl) ?_)
    | (refine Is_fieldAddr ?_; refine G_fieldOff rfl rfl ?_)
    | (refine Is_indexAddr ?_; refine G_indexA rfl rfl (by first | decide | omega) rfl ?_)
    | (refine Is_un ?_; refine G_not rfl rfl ?_)
    | (refine Is_makeFunc ?_; refine G_makeFunc rfl rfl rfl ?_)
    | (refine Is_extract ?_; refine G_extract rfl rfl rfl ?_)
    | (refine Is_guard ?_; first
      | refine G_guard_yes (by rw [hops.eq]; rfl) rfl (by simp) ?_
      | refine G_guard_no (by rw [hops.eq]; rfl) rfl rfl rfl ?_)
    | (refine Is_pick ?_; first
      | refine G_pick_t rfl rfl rfl ?_
      | refine G_pick_f rfl rfl rfl ?_)
    | refine GC_cond_t rfl ?_
    | refine GC_cond_f rfl ?_
    | refine GC_seq ?_
    | refine GC_region (fun ops hops => ?_)
    | (refine G_nil ?_; try clear hops; try clear ops)
    | refine At_then ?_
    | refine GC_skip ?_
    | refine GC_block ?_
    | refine GC_exit ?_
    | refine GC_ret ?_
    | refine At_then_exit ?_
    | refine At_then_ret ?_
    | refine At_block ?_
    | refine At_block_ret ?_
    | refine At_block_hit ?_
    | refine At_block_miss rfl ?_
    | refine At_round_exit ?_
    | refine At_round_ret ?_)
    obtain ⟨p, hp⟩ : ∃ p : Int, p = n * (1 + (k.toNat : Int)) := ⟨_, rfl⟩
    have p0 : 1 ≤ p := by
      have := Int.mul_le_mul g1 (show (1 : Int) ≤ 1 + k.toNat by omega) (by omega) (by omega)
      omega
    have p1 : p ≤ 256000000 := by
      have := Int.mul_le_mul g2 (show 1 + (k.toNat : Int) ≤ 256 by omega) (by omega) (by omega)
      omega
    refine GC_draw [0, 1, 2, 3, 4, 5, 6, 7, 8, 9, 10, 11, 12, 13, 14, 15, 16, 17, 18, 19, 20, 21, 22, 23] [] 24 rfl (by kernel_rfl) (fun ops hops => ?_)
    repeat
  apply DR_x rfl rfl rfl
  (· intro mm
     (repeat (first
    | (refine Is_move ?_; refine G_move rfl rfl ?_)
    | (refine Is_assign ?_; refine G_assign rfl rfl ?_)
    | (refine Is_bin ?_; first
      | refine G_lss_t rfl rfl (by omega) rfl ?_
      | refine G_lss_f rfl rfl (by omega) rfl ?_
      | refine G_lss rfl rfl rfl ?_
      | refine G_add rfl rfl rfl (by first | exact IntWalk.i64_in _ (by omega) | rfl) ?_
      | refine G_eql_t rfl rfl (by first | assumption | with_reducible rfl | decide +kernel | omega) rfl ?_
      | refine G_eql_f rfl rfl (by first | decide +kernel | omega | assumption) rfl ?_
      | refine G_eql rfl rfl rfl ?_
      | refine G_neq_f rfl rfl (by first | assumption | with_reducible rfl | decide +kernel | omega) rfl ?_
      | refine G_neq_t rfl rfl (by first | decide +kernel | omega | assumption) rfl ?_
      | refine G_neq rfl rfl rfl ?_
      | refine G_leq_t rfl rfl (by omega) rfl ?_
      | refine G_leq_f rfl rfl (by omega) rfl ?_
      | refine G_leq rfl rfl rfl ?_
      | refine G_gtr_t rfl rfl (by omega) rfl ?_
      | refine G_gtr_f rfl rfl (by omega) rfl ?_
      | refine G_gtr rfl rfl rfl ?_
      | refine G_geq_t rfl rfl (by omega) rfl ?_
      | refine G_geq_f rfl rfl (by omega) rfl ?_
      | refine G_geq rfl rfl rfl ?_
      | refine G_sub rfl rfl rfl (by first | exact IntWalk.i64_in _ (by omega) | rfl) ?_
      | refine G_mul rfl rfl rfl (by first | exact IntWalk.i64_in _ (by omega) | rfl) ?_
      | refine G_xor64 rfl rfl rfl ?_
      | refine G_mul64 rfl rfl rfl ?_
      | refine G_or64 rfl rfl rfl ?_
      | refine G_and64 rfl rfl rfl ?_
      | refine G_add64 rfl rfl rfl ?_
      | refine G_sub64 rfl rfl rfl ?_
      | refine G_shr64 rfl rfl rfl rfl ?_
      | refine G_shl64 rfl rfl rfl rfl ?_)
    | (refine Is_load ?_; first
      | refine G_load rfl rfl rfl ?_
      | refine G_load_cell rfl (by first | assumption | apply_assumption) rfl ?_)
    | (refine Is_store ?_; refine G_store rfl rfl rfl rfl rfl ?_)
    | (refine Is_builtin ?_; first
      | refine G_len rfl rfl ?_)
    | (refine Is_nilCheck ?_; refine G_nilCheck rfl rfl ?_)
    | (refine Is_convert ?_; first
      | refine G_u64_int rfl rfl ?_
      | refine G_to_u64 rfl rfl ?_
      | refine G_conv _ rfl rfl (by first | exact IntWalk.i64_in _ (by omega) | rfl) ?_)
    | (refine Is_fieldAddr ?_; refine G_fieldOff rfl rfl ?_)
    | (refine Is_indexAddr ?_; refine G_indexA rfl rfl (by first | decide | omega) rfl ?_)
    | (refine Is_un ?_; refine G_not rfl rfl ?_)
    | (refine Is_makeFunc ?_; refine G_makeFunc rfl rfl rfl ?_)
    | (refine Is_extract ?_; refine G_extract rfl rfl rfl ?_)
    | (refine Is_guard ?_; first
      | refine G_guard_yes (by rw [hops.eq]; rfl) rfl (by simp) ?_
      | refine G_guard_no (by rw [hops.eq]; rfl) rfl rfl rfl ?_)
    | (refine Is_pick ?_; first
      | refine G_pick_t rfl rfl rfl ?_
      | refine G_pick_f rfl rfl rfl ?_)
    | refine GC_cond_t rfl ?_
    | refine GC_cond_f rfl ?_
    | refine GC_seq ?_
    | refine GC_region (fun ops hops => ?_)
    | (refine G_nil ?_; try clear hops; try clear ops)
    | refine At_then ?_
    | refine GC_skip ?_
    | refine GC_block ?_
    | refine GC_exit ?_
    | refine GC_ret ?_
    | refine At_then_exit ?_
    | refine At_then_ret ?_
    | refine At_block ?_
    | refine At_block_ret ?_
    | refine At_block_hit ?_
    | refine At_block_miss rfl ?_
    | refine At_round_exit ?_
    | refine At_round_ret ?_))
     exact X_done rfl (List.Sublist.refl _))
    apply DR_x rfl rfl rfl
    · intro mm
      repeat (first
    | (refine Is_move ?_; refine G_move rfl rfl ?_)
    | (refine Is_assign ?_; refine G_assign rfl rfl ?_)
    | (refine Is_bin ?_; first
      | refine G_lss_t rfl rfl (by omega) rfl ?_
      | refine G_lss_f rfl rfl (by omega) rfl ?_
      | refine G_lss rfl rfl rfl ?_
      | refine G_add rfl rfl rfl (by first | exact IntWalk.i64_in _ (by omega) | rfl) ?_
      | refine G_eql_t rfl rfl (by first | assumption | with_reducible rfl | decide +kernel | omega) rfl ?_
      | refine G_eql_f rfl rfl (by first | decide +kernel | omega | assumption) rfl ?_
      | refine G_eql rfl rfl rfl ?_
      | refine G_neq_f rfl rfl (by first | assumption | with_reducible rfl | decide +kernel | omega) rfl ?_
      | refine G_neq_t rfl rfl (by first | decide +kernel | omega | assumption) rfl ?_
      | refine G_neq rfl rfl rfl ?_
      | refine G_leq_t rfl rfl (by omega) rfl ?_
      | refine G_leq_f rfl rfl (by omega) rfl ?_
      | refine G_leq rfl rfl rfl ?_
      | refine G_gtr_t rfl rfl (by omega) rfl ?_
      | refine G_gtr_f rfl rfl (by omega) rfl ?_
      | refine G_gtr rfl rfl rfl ?_
      | refine G_geq_t rfl rfl (by omega) rfl ?_
      | refine G_geq_f rfl rfl (by omega) rfl ?_
      | refine G_geq rfl rfl rfl ?_
      | refine G_sub rfl rfl rfl (by first | exact IntWalk.i64_in _ (by omega) | rfl) ?_
      | refine G_mul rfl rfl rfl (by first | exact IntWalk.i64_in _ (by omega) | rfl) ?_
      | refine G_xor64 rfl rfl rfl ?_
      | refine G_mul64 rfl rfl rfl ?_
      | refine G_or64 rfl rfl rfl ?_
      | refine G_and64 rfl rfl rfl ?_
      | refine G_add64 rfl rfl rfl ?_
      | refine G_sub64 rfl rfl rfl ?_
      | refine G_shr64 rfl rfl rfl rfl ?_
      | refine G_shl64 rfl rfl rfl rfl ?_)
    | (refine Is_load ?_; first
      | refine G_load rfl rfl rfl ?_
      | refine G_load_cell rfl (by first | assumption | apply_assumption) rfl ?_)
    | (refine Is_store ?_; refine G_store rfl rfl rfl rfl rfl ?_)
    | (refine Is_builtin ?_; first
      | refine G_len rfl rfl ?_)
    | (refine Is_nilCheck ?_; refine G_nilCheck rfl rfl ?_)
    | (refine Is_convert ?_; first
      | refine G_u64_int rfl rfl ?_
      | refine G_to_u64 rfl rfl ?_
      | refine G_conv _ rfl rfl (by first | exact IntWalk.i64_in _ (by omega) | rfl) ?_)
    | (refine Is_fieldAddr ?_; refine G_fieldOff rfl rfl ?_)
    | (refine Is_indexAddr ?_; refine G_indexA rfl rfl (by first | decide | omega) rfl ?_)
    | (refine Is_un ?_; refine G_not rfl rfl ?_)
    | (refine Is_makeFunc ?_; refine G_makeFunc rfl rfl rfl ?_)
    | (refine Is_extract ?_; refine G_extract rfl rfl rfl ?_)
    | (refine Is_guard ?_; first
      | refine G_guard_yes (by rw [hops.eq]; rfl) rfl (by simp) ?_
      | refine G_guard_no (by rw [hops.eq]; rfl) rfl rfl rfl ?_)
    | (refine Is_pick ?_; first
      | refine G_pick_t rfl rfl rfl ?_
      | refine G_pick_f rfl rfl rfl ?_)
    | refine GC_cond_t rfl ?_
    | refine GC_cond_f rfl ?_
    | refine GC_seq ?_
    | refine GC_region (fun ops hops => ?_)
    | (refine G_nil ?_; try clear hops; try clear ops)
    | refine At_then ?_
    | refine GC_skip ?_
    | refine GC_block ?_
    | refine GC_exit ?_
    | refine GC_ret ?_
    | refine At_then_exit ?_
    | refine At_then_ret ?_
    | refine At_block ?_
    | refine At_block_ret ?_
    | refine At_block_hit ?_
    | refine At_block_miss rfl ?_
    | refine At_round_exit ?_
    | refine At_round_ret ?_)
      refine G_call rfl (fun w1 _ => bucket_in _ n g1 g2 w1) rfl ?_
      repeat (first
    | (refine Is_move ?_; refine G_move rfl rfl ?_)
    | (refine Is_assign ?_; refine G_assign rfl rfl ?_)
    | (refine Is_bin ?_; first
      | refine G_lss_t rfl rfl (by omega) rfl ?_
      | refine G_lss_f rfl rfl (by omega) rfl ?_
      | refine G_lss rfl rfl rfl ?_
      | refine G_add rfl rfl rfl (by first | exact IntWalk.i64_in _ (by omega) | rfl) ?_
      | refine G_eql_t rfl rfl (by first | assumption | with_reducible rfl | decide +kernel | omega) rfl ?_
      | refine G_eql_f rfl rfl (by first | decide +kernel | omega | assumption) rfl ?_
      | refine G_eql rfl rfl rfl ?_
      | refine G_neq_f rfl rfl (by first | assumption | with_reducible rfl | decide +kernel | omega) rfl ?_
      | refine G_neq_t rfl rfl (by first | decide +kernel | omega | assumption) rfl ?_
      | refine G_neq rfl rfl rfl ?_
      | refine G_leq_t rfl rfl (by omega) rfl ?_
      | refine G_leq_f rfl rfl (by omega) rfl ?_
      | refine G_leq rfl rfl rfl ?_
      | refine G_gtr_t rfl rfl (by omega) rfl ?_
      | refine G_gtr_f rfl rfl (by omega) rfl ?_
      | refine G_gtr rfl rfl rfl ?_
      | refine G_geq_t rfl rfl (by omega) rfl ?_
      | refine G_geq_f rfl rfl (by omega) rfl ?_
      | refine G_geq rfl rfl rfl ?_
      | refine G_sub rfl rfl rfl (by first | exact IntWalk.i64_in _ (by omega) | rfl) ?_
      | refine G_mul rfl rfl rfl (by first | exact IntWalk.i64_in _ (by omega) | rfl) ?_
      | refine G_xor64 rfl rfl rfl ?_
      | refine G_mul64 rfl rfl rfl ?_
      | refine G_or64 rfl rfl rfl ?_
      | refine G_and64 rfl rfl rfl ?_
      | refine G_add64 rfl rfl rfl ?_
      | refine G_sub64 rfl rfl rfl ?_
      | refine G_shr64 rfl rfl rfl rfl ?_
      | refine G_shl64 rfl rfl rfl rfl ?_)
    | (refine Is_load ?_; first
      | refine G_load rfl rfl rfl ?_
      | refine G_load_cell rfl (by first | assumption | apply_assumption) rfl ?_)
    | (refine Is_store ?_; refine G_store rfl rfl rfl rfl rfl ?_)
    | (refine Is_builtin ?_; first
      | refine G_len rfl rfl ?_)
    | (refine Is_nilCheck ?_; refine G_nilCheck rfl rfl ?_)
    | (refine Is_convert ?_; first
      | refine G_u64_int rfl rfl ?_
      | refine G_to_u64 rfl rfl ?_
      | refine G_conv _ rfl rfl (by first | exact IntWalk.i64_in _ (by omega) | rfl) ?_)
    | (refine Is_fieldAddr ?_; refine G_fieldOff rfl rfl ?_)
    | (refine Is_indexAddr ?_; refine G_indexA rfl rfl (by first | decide | omega) rfl ?_)
    | (refine Is_un ?_; refine G_not rfl rfl ?_)
    | (refine Is_makeFunc ?_; refine G_makeFunc rfl rfl rfl ?_)
    | (refine Is_extract ?_; refine G_extract rfl rfl rfl ?_)
    | (refine Is_guard ?_; first
      | refine G_guard_yes (by rw [hops.eq]; rfl) rfl (by simp) ?_
      | refine G_guard_no (by rw [hops.eq]; rfl) rfl rfl rfl ?_)
    | (refine Is_pick ?_; first
      | refine G_pick_t rfl rfl rfl ?_
      | refine G_pick_f rfl rfl rfl ?_)
    | refine GC_cond_t rfl ?_
    | refine GC_cond_f rfl ?_
    | refine GC_seq ?_
    | refine GC_region (fun ops hops => ?_)
    | (refine G_nil ?_; try clear hops; try clear ops)
    | refine At_then ?_
    | refine GC_skip ?_
    | refine GC_block ?_
    | refine GC_exit ?_
    | refine GC_ret ?_
    | refine At_then_exit ?_
    | refine At_then_ret ?_
    | refine At_block ?_
    | refine At_block_ret ?_
    | refine At_block_hit ?_
    | refine At_block_miss rfl ?_
    | refine At_round_exit ?_
    | refine At_round_ret ?_)
      (refine X_done rfl ?_; first | exact List.Sublist.refl _ | exact List.sublist_append_right _ _ | exact List.Sublist.cons _ (List.Sublist.refl _))
    apply DR_x rfl rfl rfl
    · intro mm
      repeat (first
    | (refine Is_move ?_; refine G_move rfl rfl ?_)
    | (refine Is_assign ?_; refine G_assign rfl rfl ?_)
    | (refine Is_bin ?_; first
      | refine G_lss_t rfl rfl (by omega) rfl ?_
      | refine G_lss_f rfl rfl (by omega) rfl ?_
      | refine G_lss rfl rfl rfl ?_
      | refine G_add rfl rfl rfl (by first | exact IntWalk.i64_in _ (by omega) | rfl) ?_
      | refine G_eql_t rfl rfl (by first | assumption | with_reducible rfl | decide +kernel | omega) rfl ?_
      | refine G_eql_f rfl rfl (by first | decide +kernel | omega | assumption) rfl ?_
      | refine G_eql rfl rfl rfl ?_
      | refine G_neq_f rfl rfl (by first | assumption | with_reducible rfl | decide +kernel | omega) rfl ?_
      | refine G_neq_t rfl rfl (by first | decide +kernel | omega | assumption) rfl ?_
      | refine G_neq rfl rfl rfl ?_
      | refine G_leq_t rfl rfl (by omega) rfl ?_
      | refine G_leq_f rfl rfl (by omega) rfl ?_
      | refine G_leq rfl rfl rfl ?_
      | refine G_gtr_t rfl rfl (by omega) rfl ?_
      | refine G_gtr_f rfl rfl (by omega) rfl ?_
      | refine G_gtr rfl rfl rfl ?_
      | refine G_geq_t rfl rfl (by omega) rfl ?_
      | refine G_geq_f rfl rfl (by omega) rfl ?_
      | refine G_geq rfl rfl rfl ?_
      | refine G_sub rfl rfl rfl (by first | exact IntWalk.i64_in _ (by omega) | rfl) ?_
      | refine G_mul rfl rfl rfl (by first | exact IntWalk.i64_in _ (by omega) | rfl) ?_
      | refine G_xor64 rfl rfl rfl ?_
      | refine G_mul64 rfl rfl rfl ?_
      | refine G_or64 rfl rfl rfl ?_
      | refine G_and64 rfl rfl rfl ?_
      | refine G_add64 rfl rfl rfl ?_
      | refine G_sub64 rfl rfl rfl ?_
      | refine G_shr64 rfl rfl rfl rfl ?_
      | refine G_shl64 rfl rfl rfl rfl ?_)
    | (refine Is_load ?_; first
      | refine G_load rfl rfl rfl ?_
      | refine G_load_cell rfl (by first | assumption | apply_assumption) rfl ?_)
    | (refine Is_store ?_; refine G_store rfl rfl rfl rfl rfl ?_)
    | (refine Is_builtin ?_; first
      | refine G_len rfl rfl ?_)
    | (refine Is_nilCheck ?_; refine G_nilCheck rfl rfl ?_)
    | (refine Is_convert ?_; first
      | refine G_u64_int rfl rfl ?_
      | refine G_to_u64 rfl rfl ?_
      | refine G_conv _ rfl rfl (by first | exact IntWalk.i64_in _ (by omega) | rfl) ?_)
    | (refine Is_fieldAddr ?_; refine G_fieldOff rfl rfl ?_)
    | (refine Is_indexAddr ?_; refine G_indexA rfl rfl (by first | decide | omega) rfl ?_)
    | (refine Is_un ?_; refine G_not rfl rfl ?_)
    | (refine Is_makeFunc ?_; refine G_makeFunc rfl rfl rfl ?_)
    | (refine Is_extract ?_; refine G_extract rfl rfl rfl ?_)
    | (refine Is_guard ?_; first
      | refine G_guard_yes (by rw [hops.eq]; rfl) rfl (by simp) ?_
      | refine G_guard_no (by rw [hops.eq]; rfl) rfl rfl rfl ?_)
    | (refine Is_pick ?_; first
      | refine G_pick_t rfl rfl rfl ?_
      | refine G_pick_f rfl rfl rfl ?_)
    | refine GC_cond_t rfl ?_
    | refine GC_cond_f rfl ?_
    | refine GC_seq ?_
    | refine GC_region (fun ops hops => ?_)
    | (refine G_nil ?_; try clear hops; try clear ops)
    | refine At_then ?_
    | refine GC_skip ?_
    | refine GC_block ?_
    | refine GC_exit ?_
    | refine GC_ret ?_
    | refine At_then_exit ?_
    | refine At_then_ret ?_
    | refine At_block ?_
    | refine At_block_ret ?_
    | refine At_block_hit ?_
    | refine At_block_miss rfl ?_
    | refine At_round_exit ?_
    | refine At_round_ret ?_)
      refine G_loadA (vs := [I (bkt d n), I 0]) rfl rfl rfl rfl ?_
      repeat (first
    | (refine Is_move ?_; refine G_move rfl rfl ?_)
    | (refine Is_assign ?_; refine G_assign rfl rfl ?_)
    | (refine Is_bin ?_; first
      | refine G_lss_t rfl rfl (by omega) rfl ?_
      | refine G_lss_f rfl rfl (by omega) rfl ?_
      | refine G_lss rfl rfl rfl ?_
      | refine G_add rfl rfl rfl (by first | exact IntWalk.i64_in _ (by omega) | rfl) ?_
      | refine G_eql_t rfl rfl (by first | assumption | with_reducible rfl | decide +kernel | omega) rfl ?_
      | refine G_eql_f rfl rfl (by first | decide +kernel | omega | assumption) rfl ?_
      | refine G_eql rfl rfl rfl ?_
      | refine G_neq_f rfl rfl (by first | assumption | with_reducible rfl | decide +kernel | omega) rfl ?_
      | refine G_neq_t rfl rfl (by first | decide +kernel | omega | assumption) rfl ?_
      | refine G_neq rfl rfl rfl ?_
      | refine G_leq_t rfl rfl (by omega) rfl ?_
      | refine G_leq_f rfl rfl (by omega) rfl ?_
      | refine G_leq rfl rfl rfl ?_
      | refine G_gtr_t rfl rfl (by omega) rfl ?_
      | refine G_gtr_f rfl rfl (by omega) rfl ?_
      | refine G_gtr rfl rfl rfl ?_
      | refine G_geq_t rfl rfl (by omega) rfl ?_
      | refine G_geq_f rfl rfl (by omega) rfl ?_
      | refine G_geq rfl rfl rfl ?_
      | refine G_sub rfl rfl rfl (by first | exact IntWalk.i64_in _ (by omega) | rfl) ?_
      | refine G_mul rfl rfl rfl (by first | exact IntWalk.i64_in _ (by omega) | rfl) ?_
      | refine G_xor64 rfl rfl rfl ?_
      | refine G_mul64 rfl rfl rfl ?_
      | refine G_or64 rfl rfl rfl ?_
      | refine G_and64 rfl rfl rfl ?_
      | refine G_add64 rfl rfl rfl ?_
      | refine G_sub64 rfl rfl rfl ?_
      | refine G_shr64 rfl rfl rfl rfl ?_
      | refine G_shl64 rfl rfl rfl rfl ?_)
    | (refine Is_load ?_; first
      | refine G_load rfl rfl rfl ?_
      | refine G_load_cell rfl (by first | assumption | apply_assumption) rfl ?_)
    | (refine Is_store ?_; refine G_store rfl rfl rfl rfl rfl ?_)
    | (refine Is_builtin ?_; first
      | refine G_len rfl rfl ?_)
    | (refine Is_nilCheck ?_; refine G_nilCheck rfl rfl ?_)
    | (refine Is_convert ?_; first
      | refine G_u64_int rfl rfl ?_
      | refine G_to_u64 rfl rfl ?_
      | refine G_conv _ rfl rfl (by first | exact IntWalk.i64_in _ (by omega) | rfl) ?_)
    | (refine Is_fieldAddr ?_; refine G_fieldOff rfl rfl ?_)
    | (refine Is_indexAddr ?_; refine G_indexA rfl rfl (by first | decide | omega) rfl ?_)
    | (refine Is_un ?_; refine G_not rfl rfl ?_)
    | (refine Is_makeFunc ?_; refine G_makeFunc rfl rfl rfl ?_)
    | (refine Is_extract ?_; refine G_extract rfl rfl rfl ?_)
    | (refine Is_guard ?_; first
      | refine G_guard_yes (by rw [hops.eq]; rfl) rfl (by simp) ?_
      | refine G_guard_no (by rw [hops.eq]; rfl) rfl rfl rfl ?_)
    | (refine Is_pick ?_; first
      | refine G_pick_t rfl rfl rfl ?_
      | refine G_pick_f rfl rfl rfl ?_)
    | refine GC_cond_t rfl ?_
    | refine GC_cond_f rfl ?_
    | refine GC_seq ?_
    | refine GC_region (fun ops hops => ?_)
    | (refine G_nil ?_; try clear hops; try clear ops)
    | refine At_then ?_
    | refine GC_skip ?_
    | refine GC_block ?_
    | refine GC_exit ?_
    | refine GC_ret ?_
    | refine At_then_exit ?_
    | refine At_then_ret ?_
    | refine At_block ?_
    | refine At_block_ret ?_
    | refine At_block_hit ?_
    | refine At_block_miss rfl ?_
    | refine At_round_exit ?_
    | refine At_round_ret ?_)
      (refine X_done rfl ?_; first | exact List.Sublist.refl _ | exact List.sublist_append_right _ _ | exact List.Sublist.cons _ (List.Sublist.refl _))
    rw [bkt_xor _ _ _ (by simp; omega)]
    apply DR_x rfl rfl rfl
    · intro mm
      repeat (first
    | (refine Is_move ?_; refine G_move rfl rfl ?_)
    | (refine Is_assign ?_; refine G_assign rfl rfl ?_)
    | (refine Is_bin ?_; first
      | refine G_lss_t rfl rfl (by omega) rfl ?_
      | refine G_lss_f rfl rfl (by omega) rfl ?_
      | refine G_lss rfl rfl rfl ?_
      | refine G_add rfl rfl rfl (by first | exact IntWalk.i64_in _ (by omega) | rfl) ?_
      | refine G_eql_t rfl rfl (by first | assumption | with_reducible rfl | decide +kernel | omega) rfl ?_
      | refine G_eql_f rfl rfl (by first | decide +kernel | omega | assumption) rfl ?_
      | refine G_eql rfl rfl rfl ?_
      | refine G_neq_f rfl rfl (by first | assumption | with_reducible rfl | decide +kernel | omega) rfl ?_
      | refine G_neq_t rfl rfl (by first | decide +kernel | omega | assumption) rfl ?_
      | refine G_neq rfl rfl rfl ?_
      | refine G_leq_t rfl rfl (by omega) rfl ?_
      | refine G_leq_f rfl rfl (by omega) rfl ?_
      | refine G_leq rfl rfl rfl ?_
      | refine G_gtr_t rfl rfl (by omega) rfl ?_
      | refine G_gtr_f rfl rfl (by omega) rfl ?_
      | refine G_gtr rfl rfl rfl ?_
      | refine G_geq_t rfl rfl (by omega) rfl ?_
      | refine G_geq_f rfl rfl (by omega) rfl ?_
      | refine G_geq rfl rfl rfl ?_
      | refine G_sub rfl rfl rfl (by first | exact IntWalk.i64_in _ (by omega) | rfl) ?_
      | refine G_mul rfl rfl rfl (by first | exact IntWalk.i64_in _ (by omega) | rfl) ?_
      | refine G_xor64 rfl rfl rfl ?_
      | refine G_mul64 rfl rfl rfl ?_
      | refine G_or64 rfl rfl rfl ?_
      | refine G_and64 rfl rfl rfl ?_
      | refine G_add64 rfl rfl rfl ?_
      | refine G_sub64 rfl rfl rfl ?_
      | refine G_shr64 rfl rfl rfl rfl ?_
      | refine G_shl64 rfl rfl rfl rfl ?_)
    | (refine Is_load ?_; first
      | refine G_load rfl rfl rfl ?_
      | refine G_load_cell rfl (by first | assumption | apply_assumption) rfl ?_)
    | (refine Is_store ?_; refine G_store rfl rfl rfl rfl rfl ?_)
    | (refine Is_builtin ?_; first
      | refine G_len rfl rfl ?_)
    | (refine Is_nilCheck ?_; refine G_nilCheck rfl rfl ?_)
    | (refine Is_convert ?_; first
      | refine G_u64_int rfl rfl ?_
      | refine G_to_u64 rfl rfl ?_
      | refine G_conv _ rfl rfl (by first | exact IntWalk.i64_in _ (by omega) | rfl) ?_)
    | (refine Is_fieldAddr ?_; refine G_fieldOff rfl rfl ?_)
    | (refine Is_indexAddr ?_; refine G_indexA rfl rfl (by first | decide | omega) rfl ?_)
    | (refine Is_un ?_; refine G_not rfl rfl ?_)
    | (refine Is_makeFunc ?_; refine G_makeFunc rfl rfl rfl ?_)
    | (refine Is_extract ?_; refine G_extract rfl rfl rfl ?_)
    | (refine Is_guard ?_; first
      | refine G_guard_yes (by rw [hops.eq]; rfl) rfl (by simp) ?_
      | refine G_guard_no (by rw [hops.eq]; rfl) rfl rfl rfl ?_)
    | (refine Is_pick ?_; first
      | refine G_pick_t rfl rfl rfl ?_
      | refine G_pick_f rfl rfl rfl ?_)
    | refine GC_cond_t rfl ?_
    | refine GC_cond_f rfl ?_
    | refine GC_seq ?_
    | refine GC_region (fun ops hops => ?_)
    | (refine G_nil ?_; try clear hops; try clear ops)
    | refine At_then ?_
    | refine GC_skip ?_
    | refine GC_block ?_
    | refine GC_exit ?_
    | refine GC_ret ?_
    | refine At_then_exit ?_
    | refine At_then_ret ?_
    | refine At_block ?_
    | refine At_block_ret ?_
    | refine At_block_hit ?_
    | refine At_block_miss rfl ?_
    | refine At_round_exit ?_
    | refine At_round_ret ?_)
      refine G_neqS (b := true) rfl rfl rfl rfl (sames_self _ [.int .i64, .int .i64] rfl) rfl ?_
      repeat (first
    | (refine Is_move ?_; refine G_move rfl rfl ?_)
    | (refine Is_assign ?_; refine G_assign rfl rfl ?_)
    | (refine Is_bin ?_; first
      | refine G_lss_t rfl rfl (by omega) rfl ?_
      | refine G_lss_f rfl rfl (by omega) rfl ?_
      | refine G_lss rfl rfl rfl ?_
      | refine G_add rfl rfl rfl (by first | exact IntWalk.i64_in _ (by omega) | rfl) ?_
      | refine G_eql_t rfl rfl (by first | assumption | with_reducible rfl | decide +kernel | omega) rfl ?_
      | refine G_eql_f rfl rfl (by first | decide +kernel | omega | assumption) rfl ?_
      | refine G_eql rfl rfl rfl ?_
      | refine G_neq_f rfl rfl (by first | assumption | with_reducible rfl | decide +kernel | omega) rfl ?_
      | refine G_neq_t rfl rfl (by first | decide +kernel | omega | assumption) rfl ?_
      | refine G_neq rfl rfl rfl ?_
      | refine G_leq_t rfl rfl (by omega) rfl ?_
      | refine G_leq_f rfl rfl (by omega) rfl ?_
      | refine G_leq rfl rfl rfl ?_
      | refine G_gtr_t rfl rfl (by omega) rfl ?_
      | refine G_gtr_f rfl rfl (by omega) rfl ?_
      | refine G_gtr rfl rfl rfl ?_
      | refine G_geq_t rfl rfl (by omega) rfl ?_
      | refine G_geq_f rfl rfl (by omega) rfl ?_
      | refine G_geq rfl rfl rfl ?_
      | refine G_sub rfl rfl rfl (by first | exact IntWalk.i64_in _ (by omega) | rfl) ?_
      | refine G_mul rfl rfl rfl (by first | exact IntWalk.i64_in _ (by omega) | rfl) ?_
      | refine G_xor64 rfl rfl rfl ?_
      | refine G_mul64 rfl rfl rfl ?_
      | refine G_or64 rfl rfl rfl ?_
      | refine G_and64 rfl rfl rfl ?_
      | refine G_add64 rfl rfl rfl ?_
      | refine G_sub64 rfl rfl rfl ?_
      | refine G_shr64 rfl rfl rfl rfl ?_
      | refine G_shl64 rfl rfl rfl rfl ?_)
    | (refine Is_load ?_; first
      | refine G_load rfl rfl rfl ?_
      | refine G_load_cell rfl (by first | assumption | apply_assumption) rfl ?_)
    | (refine Is_store ?_; refine G_store rfl rfl rfl rfl rfl ?_)
    | (refine Is_builtin ?_; first
      | refine G_len rfl rfl ?_)
    | (refine Is_nilCheck ?_; refine G_nilCheck rfl rfl ?_)
    | (refine Is_convert ?_; first
      | refine G_u64_int rfl rfl ?_
      | refine G_to_u64 rfl rfl ?_
      | refine G_conv _ rfl rfl (by first | exact IntWalk.i64_in _ (by omega) | rfl) ?_)
    | (refine Is_fieldAddr ?_; refine G_fieldOff rfl rfl ?_)
    | (refine Is_indexAddr ?_; refine G_indexA rfl rfl (by first | decide | omega) rfl ?_)
    | (refine Is_un ?_; refine G_not rfl rfl ?_)
    | (refine Is_makeFunc ?_; refine G_makeFunc rfl rfl rfl ?_)
    | (refine Is_extract ?_; refine G_extract rfl rfl rfl ?_)
    | (refine Is_guard ?_; first
      | refine G_guard_yes (by rw [hops.eq]; rfl) rfl (by simp) ?_
      | refine G_guard_no (by rw [hops.eq]; rfl) rfl rfl rfl ?_)
    | (refine Is_pick ?_; first
      | refine G_pick_t rfl rfl rfl ?_
      | refine G_pick_f rfl rfl rfl ?_)
    | refine GC_cond_t rfl ?_
    | refine GC_cond_f rfl ?_
    | refine GC_seq ?_
    | refine GC_region (fun ops hops => ?_)
    | (refine G_nil ?_; try clear hops; try clear ops)
    | refine At_then ?_
    | refine GC_skip ?_
    | refine GC_block ?_
    | refine GC_exit ?_
    | refine GC_ret ?_
    | refine At_then_exit ?_
    | refine At_then_ret ?_
    | refine At_block ?_
    | refine At_block_ret ?_
    | refine At_block_hit ?_
    | refine At_block_miss rfl ?_
    | refine At_round_exit ?_
    | refine At_round_ret ?_)
      (refine X_done rfl ?_; first | exact List.Sublist.refl _ | exact List.sublist_append_right _ _ | exact List.Sublist.cons _ (List.Sublist.refl _))
    repeat
  apply DR_x rfl rfl rfl
  (· intro mm
     (repeat (first
    | (refine Is_move ?_; refine G_move rfl rfl ?_)
    | (refine Is_assign ?_; refine G_assign rfl rfl ?_)
    | (refine Is_bin ?_; first
      | refine G_lss_t rfl rfl (by omega) rfl ?_
      | refine G_lss_f rfl rfl (by omega) rfl ?_
      | refine G_lss rfl rfl rfl ?_
      | refine G_add rfl rfl rfl (by first | exact IntWalk.i64_in _ (by omega) | rfl) ?_
      | refine G_eql_t rfl rfl (by first | assumption | with_reducible rfl | decide +kernel | omega) rfl ?_
      | refine G_eql_f rfl rfl (by first | decide +kernel | omega | assumption) rfl ?_
      | refine G_eql rfl rfl rfl ?_
      | refine G_neq_f rfl rfl (by first | assumption | with_reducible rfl | decide +kernel | omega) rfl ?_
      | refine G_neq_t rfl rfl (by first | decide +kernel | omega | assumption) rfl ?_
      | refine G_neq rfl rfl rfl ?_
      | refine G_leq_t rfl rfl (by omega) rfl ?_
      | refine G_leq_f rfl rfl (by omega) rfl ?_
      | refine G_leq rfl rfl rfl ?_
      | refine G_gtr_t rfl rfl (by omega) rfl ?_
      | refine G_gtr_f rfl rfl (by omega) rfl ?_
      | refine G_gtr rfl rfl rfl ?_
      | refine G_geq_t rfl rfl (by omega) rfl ?_
      | refine G_geq_f rfl rfl (by omega) rfl ?_
      | refine G_geq rfl rfl rfl ?_
      | refine G_sub rfl rfl rfl (by first | exact IntWalk.i64_in _ (by omega) | rfl) ?_
      | refine G_mul rfl rfl rfl (by first | exact IntWalk.i64_in _ (by omega) | rfl) ?_
      | refine G_xor64 rfl rfl rfl ?_
      | refine G_mul64 rfl rfl rfl ?_
      | refine G_or64 rfl rfl rfl ?_
      | refine G_and64 rfl rfl rfl ?_
      | refine G_add64 rfl rfl rfl ?_
      | refine G_sub64 rfl rfl rfl ?_
      | refine G_shr64 rfl rfl rfl rfl ?_
      | refine G_shl64 rfl rfl rfl rfl ?_)
    | (refine Is_load ?_; first
      | refine G_load rfl rfl rfl ?_
      | refine G_load_cell rfl (by first | assumption | apply_assumption) rfl ?_)
    | (refine Is_store ?_; refine G_store rfl rfl rfl rfl rfl ?_)
    | (refine Is_builtin ?_; first
      | refine G_len rfl rfl ?_)
    | (refine Is_nilCheck ?_; refine G_nilCheck rfl rfl ?_)
    | (refine Is_convert ?_; first
      | refine G_u64_int rfl rfl ?_
      | refine G_to_u64 rfl rfl ?_
      | refine G_conv _ rfl rfl (by first | exact IntWalk.i64_in _ (by omega) | rfl) ?_)
    | (refine Is_fieldAddr ?_; refine G_fieldOff rfl rfl ?_)
    | (refine Is_indexAddr ?_; refine G_indexA rfl rfl (by first | decide | omega) rfl ?_)
    | (refine Is_un ?_; refine G_not rfl rfl ?_)
    | (refine Is_makeFunc ?_; refine G_makeFunc rfl rfl rfl ?_)
    | (refine Is_extract ?_; refine G_extract rfl rfl rfl ?_)
    | (refine Is_guard ?_; first
      | refine G_guard_yes (by rw [hops.eq]; rfl) rfl (by simp) ?_
      | refine G_guard_no (by rw [hops.eq]; rfl) rfl rfl rfl ?_)
    | (refine Is_pick ?_; first
      | refine G_pick_t rfl rfl rfl ?_
      | refine G_pick_f rfl rfl rfl ?_)
    | refine GC_cond_t rfl ?_
    | refine GC_cond_f rfl ?_
    | refine GC_seq ?_
    | refine GC_region (fun ops hops => ?_)
    | (refine G_nil ?_; try clear hops; try clear ops)
    | refine At_then ?_
    | refine GC_skip ?_
    | refine GC_block ?_
    | refine GC_exit ?_
    | refine GC_ret ?_
    | refine At_then_exit ?_
    | refine At_then_ret ?_
    | refine At_block ?_
    | refine At_block_ret ?_
    | refine At_block_hit ?_
    | refine At_block_miss rfl ?_
    | refine At_round_exit ?_
    | refine At_round_ret ?_))
     exact X_done rfl (List.Sublist.refl _))
    refine DR_nil rfl ?_
    clear hops
    repeat (first
    | (refine Is_move ?_; refine G_move rfl rfl ?_)
    | (refine Is_assign ?_; refine G_assign rfl rfl ?_)
    | (refine Is_bin ?_; first
      | refine G_lss_t rfl rfl (by omega) rfl ?_
      | refine G_lss_f rfl rfl (by omega) rfl ?_
      | refine G_lss rfl rfl rfl ?_
      | refine G_add rfl rfl rfl (by first | exact IntWalk.i64_in _ (by omega) | rfl) ?_
      | refine G_eql_t rfl rfl (by first | assumption | with_reducible rfl | decide +kernel | omega) rfl ?_
      | refine G_eql_f rfl rfl (by first | decide +kernel | omega | assumption) rfl ?_
      | refine G_eql rfl rfl rfl ?_
      | refine G_neq_f rfl rfl (by first | assumption | with_reducible rfl | decide +kernel | omega) rfl ?_
      | refine G_neq_t rfl rfl (by first | decide +kernel | omega | assumption) rfl ?_
      | refine G_neq rfl rfl rfl ?_
      | refine G_leq_t rfl rfl (by omega) rfl ?_
      | refine G_leq_f rfl rfl (by omega) rfl ?_
      | refine G_leq rfl rfl rfl ?_
      | refine G_gtr_t rfl rfl (by omega) rfl ?_
      | refine G_gtr_f rfl rfl (by omega) rfl ?_
      | refine G_gtr rfl rfl rfl ?_
      | refine G_geq_t rfl rfl (by omega) rfl ?_
      | refine G_geq_f rfl rfl (by omega) rfl ?_
      | refine G_geq rfl rfl rfl ?_
      | refine G_sub rfl rfl rfl (by first | exact IntWalk.i64_in _ (by omega) | rfl) ?_
      | refine G_mul rfl rfl rfl (by first | exact IntWalk.i64_in _ (by omega) | rfl) ?_
      | refine G_xor64 rfl rfl rfl ?_
      | refine G_mul64 rfl rfl rfl ?_
      | refine G_or64 rfl rfl rfl ?_
      | refine G_and64 rfl rfl rfl ?_
      | refine G_add64 rfl rfl rfl ?_
      | refine G_sub64 rfl rfl rfl ?_
      | refine G_shr64 rfl rfl rfl rfl ?_
      | refine G_shl64 rfl rfl rfl rfl ?_)
    | (refine Is_load ?_; first
      | refine G_load rfl rfl rfl ?_
      | refine G_load_cell rfl (by first | assumption | apply_assumption) rfl ?_)
    | (refine Is_store ?_; refine G_store rfl rfl rfl rfl rfl ?_)
    | (refine Is_builtin ?_; first
      | refine G_len rfl rfl ?_)
    | (refine Is_nilCheck ?_; refine G_nilCheck rfl rfl ?_)
    | (refine Is_convert ?_; first
      | refine G_u64_int rfl rfl ?_
      | refine G_to_u64 rfl rfl ?_
      | refine G_conv _ rfl rfl (by first | exact IntWalk.i64_in _ (by omega) | rfl) ?_)
    | (refine Is_fieldAddr ?_; refine G_fieldOff rfl rfl ?_)
    | (refine Is_indexAddr ?_; refine G_indexA rfl rfl (by first | decide | omega) rfl ?_)
    | (refine Is_un ?_; refine G_not rfl rfl ?_)
    | (refine Is_makeFunc ?_; refine G_makeFunc rfl rfl rfl ?_)
    | (refine Is_extract ?_; refine G_extract rfl rfl rfl ?_)
    | (refine Is_guard ?_; first
      | refine G_guard_yes (by rw [hops.eq]; rfl) rfl (by simp) ?_
      | refine G_guard_no (by rw [hops.eq]; rfl) rfl rfl rfl ?_)
    | (refine Is_pick ?_; first
      | refine G_pick_t rfl rfl rfl ?_
      | refine G_pick_f rfl rfl rfl ?_)
    | refine GC_cond_t rfl ?_
    | refine GC_cond_f rfl ?_
    | refine GC_seq ?_
    | refine GC_region (fun ops hops => ?_)
    | (refine G_nil ?_; try clear hops; try clear ops)
    | refine At_then ?_
    | refine GC_skip ?_
    | refine GC_block ?_
    | refine GC_exit ?_
    | refine GC_ret ?_
    | refine At_then_exit ?_
    | refine At_then_ret ?_
    | refine At_block ?_
    | refine At_block_ret ?_
    | refine At_block_hit ?_
    | refine At_block_miss rfl ?_
    | refine At_round_exit ?_
    | refine At_round_ret ?_)
    rw [← hp]
    by_cases g3 : 1000000 < p
    · refine G_call rfl (fun w1 _ => bucket_out d p (by omega) (by omega) (.inr g3) w1) rfl ?_
      (refine G_allocA  rfl ?_; intro b2)
      (refine G_storeA (vs := [I 0,I 1]) rfl rfl rfl rfl rfl ?_)
      repeat (first
    | (refine Is_move ?_; refine G_move rfl rfl ?_)
    | (refine Is_assign ?_; refine G_assign rfl rfl ?_)
    | (refine Is_bin ?_; first
      | refine G_lss_t rfl rfl (by omega) rfl ?_
      | refine G_lss_f rfl rfl (by omega) rfl ?_
      | refine G_lss rfl rfl rfl ?_
      | refine G_add rfl rfl rfl (by first | exact IntWalk.i64_in _ (by omega) | rfl) ?_
      | refine G_eql_t rfl rfl (by first | assumption | with_reducible rfl | decide +kernel | omega) rfl ?_
      | refine G_eql_f rfl rfl (by first | decide +kernel | omega | assumption) rfl ?_
      | refine G_eql rfl rfl rfl ?_
      | refine G_neq_f rfl rfl (by first | assumption | with_reducible rfl | decide +kernel | omega) rfl ?_
      | refine G_neq_t rfl rfl (by first | decide +kernel | omega | assumption) rfl ?_
      | refine G_neq rfl rfl rfl ?_
      | refine G_leq_t rfl rfl (by omega) rfl ?_
      | refine G_leq_f rfl rfl (by omega) rfl ?_
      | refine G_leq rfl rfl rfl ?_
      | refine G_gtr_t rfl rfl (by omega) rfl ?_
      | refine G_gtr_f rfl rfl (by omega) rfl ?_
      | refine G_gtr rfl rfl rfl ?_
      | refine G_geq_t rfl rfl (by omega) rfl ?_
      | refine G_geq_f rfl rfl (by omega) rfl ?_
      | refine G_geq rfl rfl rfl ?_
      | refine G_sub rfl rfl rfl (by first | exact IntWalk.i64_in _ (by omega) | rfl) ?_
      | refine G_mul rfl rfl rfl (by first | exact IntWalk.i64_in _ (by omega) | rfl) ?_
      | refine G_xor64 rfl rfl rfl ?_
      | refine G_mul64 rfl rfl rfl ?_
      | refine G_or64 rfl rfl rfl ?_
      | refine G_and64 rfl rfl rfl ?_
      | refine G_add64 rfl rfl rfl ?_
      | refine G_sub64 rfl rfl rfl ?_
      | refine G_shr64 rfl rfl rfl rfl ?_
      | refine G_shl64 rfl rfl rfl rfl ?_)
    | (refine Is_load ?_; first
      | refine G_load rfl rfl rfl ?_
      | refine G_load_cell rfl (by first | assumption | apply_assumption) rfl ?_)
    | (refine Is_store ?_; refine G_store rfl rfl rfl rfl rfl ?_)
    | (refine Is_builtin ?_; first
      | refine G_len rfl rfl ?_)
    | (refine Is_nilCheck ?_; refine G_nilCheck rfl rfl ?_)
    | (refine Is_convert ?_; first
      | refine G_u64_int rfl rfl ?_
      | refine G_to_u64 rfl rfl ?_
      | refine G_conv _ rfl rfl (by first | exact IntWalk.i64_in _ (by omega) | rfl) ?_)
    | (refine Is_fieldAddr ?_; refine G_fieldOff rfl rfl ?_)
    | (refine Is_indexAddr ?_; refine G_indexA rfl rfl (by first | decide | omega) rfl ?_)
    | (refine Is_un ?_; refine G_not rfl rfl ?_)
    | (refine Is_makeFunc ?_; refine G_makeFunc rfl rfl rfl ?_)
    | (refine Is_extract ?_; refine G_extract rfl rfl rfl ?_)
    | (refine Is_guard ?_; first
      | refine G_guard_yes (by rw [hops.eq]; rfl) rfl (by simp) ?_
      | refine G_guard_no (by rw [hops.eq]; rfl) rfl rfl rfl ?_)
    | (refine Is_pick ?_; first
      | refine G_pick_t rfl rfl rfl ?_
      | refine G_pick_f rfl rfl rfl ?_)
    | refine GC_cond_t rfl ?_
    | refine GC_cond_f rfl ?_
    | refine GC_seq ?_
    | refine GC_region (fun ops hops => ?_)
    | (refine G_nil ?_; try clear hops; try clear ops)
    | refine At_then ?_
    | refine GC_skip ?_
    | refine GC_block ?_
    | refine GC_exit ?_
    | refine GC_ret ?_
    | refine At_then_exit ?_
    | refine At_then_ret ?_
    | refine At_block ?_
    | refine At_block_ret ?_
    | refine At_block_hit ?_
    | refine At_block_miss rfl ?_
    | refine At_round_exit ?_
    | refine At_round_ret ?_)
      exact ret_one rfl rfl fun w' h' => ⟨rfl, h'.drop (by simp)⟩
    · refine G_call rfl (fun w1 _ => bucket_in d p p0 (by omega) w1) rfl ?_
      (refine G_allocA  rfl ?_; intro b2)
      (refine G_storeA (vs := [I (bkt d p),I 0]) rfl rfl rfl rfl rfl ?_)
      obtain ⟨c0, c1⟩ := bkt_bounds d p p0
      repeat (first
    | (refine Is_move ?_; refine G_move rfl rfl ?_)
    | (refine Is_assign ?_; refine G_assign rfl rfl ?_)
    | (refine Is_bin ?_; first
      | refine G_lss_t rfl rfl (by omega) rfl ?_
      | refine G_lss_f rfl rfl (by omega) rfl ?_
      | refine G_lss rfl rfl rfl ?_
      | refine G_add rfl rfl rfl (by first | exact IntWalk.i64_in _ (by omega) | rfl) ?_
      | refine G_eql_t rfl rfl (by first | assumption | with_reducible rfl | decide +kernel | omega) rfl ?_
      | refine G_eql_f rfl rfl (by first | decide +kernel | omega | assumption) rfl ?_
      | refine G_eql rfl rfl rfl ?_
      | refine G_neq_f rfl rfl (by first | assumption | with_reducible rfl | decide +kernel | omega) rfl ?_
      | refine G_neq_t rfl rfl (by first | decide +kernel | omega | assumption) rfl ?_
      | refine G_neq rfl rfl rfl ?_
      | refine G_leq_t rfl rfl (by omega) rfl ?_
      | refine G_leq_f rfl rfl (by omega) rfl ?_
      | refine G_leq rfl rfl rfl ?_
      | refine G_gtr_t rfl rfl (by omega) rfl ?_
      | refine G_gtr_f rfl rfl (by omega) rfl ?_
      | refine G_gtr rfl rfl rfl ?_
      | refine G_geq_t rfl rfl (by omega) rfl ?_
      | refine G_geq_f rfl rfl (by omega) rfl ?_
      | refine G_geq rfl rfl rfl ?_
      | refine G_sub rfl rfl rfl (by first | exact IntWalk.i64_in _ (by omega) | rfl) ?_
      | refine G_mul rfl rfl rfl (by first | exact IntWalk.i64_in _ (by omega) | rfl) ?_
      | refine G_xor64 rfl rfl rfl ?_
      | refine G_mul64 rfl rfl rfl ?_
      | refine G_or64 rfl rfl rfl ?_
      | refine G_and64 rfl rfl rfl ?_
      | refine G_add64 rfl rfl rfl ?_
      | refine G_sub64 rfl rfl rfl ?_
      | refine G_shr64 rfl rfl rfl rfl ?_
      | refine G_shl64 rfl rfl rfl rfl ?_)
    | (refine Is_load ?_; first
      | refine G_load rfl rfl rfl ?_
      | refine G_load_cell rfl (by first | assumption | apply_assumption) rfl ?_)
    | (refine Is_store ?_; refine G_store rfl rfl rfl rfl rfl ?_)
    | (refine Is_builtin ?_; first
      | refine G_len rfl rfl ?_)
    | (refine Is_nilCheck ?_; refine G_nilCheck rfl rfl ?_)
    | (refine Is_convert ?_; first
      | refine G_u64_int rfl rfl ?_
      | refine G_to_u64 rfl rfl ?_
      | refine G_conv _ rfl rfl (by first | exact IntWalk.i64_in _ (by omega) | rfl) ?_)
    | (refine Is_fieldAddr ?_; refine G_fieldOff rfl rfl ?_)
    | (refine Is_indexAddr ?_; refine G_indexA rfl rfl (by first | decide | omega) rfl ?_)
    | (refine Is_un ?_; refine G_not rfl rfl ?_)
    | (refine Is_makeFunc ?_; refine G_makeFunc rfl rfl rfl ?_)
    | (refine Is_extract ?_; refine G_extract rfl rfl rfl ?_)
    | (refine Is_guard ?_; first
      | refine G_guard_yes (by rw [hops.eq]; rfl) rfl (by simp) ?_
      | refine G_guard_no (by rw [hops.eq]; rfl) rfl rfl rfl ?_)
    | (refine Is_pick ?_; first
      | refine G_pick_t rfl rfl rfl ?_
      | refine G_pick_f rfl rfl rfl ?_)
    | refine GC_cond_t rfl ?_
    | refine GC_cond_f rfl ?_
    | refine GC_seq ?_
    | refine GC_region (fun ops hops => ?_)
    | (refine G_nil ?_; try clear hops; try clear ops)
    | refine At_then ?_
    | refine GC_skip ?_
    | refine GC_block ?_
    | refine GC_exit ?_
    | refine GC_ret ?_
    | refine At_then_exit ?_
    | refine At_then_ret ?_
    | refine At_block ?_
    | refine At_block_ret ?_
    | refine At_block_hit ?_
    | refine At_block_miss rfl ?_
    | refine At_round_exit ?_
    | refine At_round_ret ?_)
      refine GC_draw [0, 1, 2, 3, 4, 5, 6, 7, 8, 9, 10, 11, 12, 13, 14, 15, 16, 17, 18, 19] [] 20 rfl (by kernel_rfl) (fun ops hops => ?_)
      repeat
  apply DR_x rfl rfl rfl
  (· intro mm
     (repeat (first
    | (refine Is_move ?_; refine G_move rfl rfl ?_)
    | (refine Is_assign ?_; refine G_assign rfl rfl ?_)
    | (refine Is_bin ?_; first
      | refine G_lss_t rfl rfl (by omega) rfl ?_
      | refine G_lss_f rfl rfl (by omega) rfl ?_
      | refine G_lss rfl rfl rfl ?_
      | refine G_add rfl rfl rfl (by first | exact IntWalk.i64_in _ (by omega) | rfl) ?_
      | refine G_eql_t rfl rfl (by first | assumption | with_reducible rfl | decide +kernel | omega) rfl ?_
      | refine G_eql_f rfl rfl (by first | decide +kernel | omega | assumption) rfl ?_
      | refine G_eql rfl rfl rfl ?_
      | refine G_neq_f rfl rfl (by first | assumption | with_reducible rfl | decide +kernel | omega) rfl ?_
      | refine G_neq_t rfl rfl (by first | decide +kernel | omega | assumption) rfl ?_
      | refine G_neq rfl rfl rfl ?_
      | refine G_leq_t rfl rfl (by omega) rfl ?_
      | refine G_leq_f rfl rfl (by omega) rfl ?_
      | refine G_leq rfl rfl rfl ?_
      | refine G_gtr_t rfl rfl (by omega) rfl ?_
      | refine G_gtr_f rfl rfl (by omega) rfl ?_
      | refine G_gtr rfl rfl rfl ?_
      | refine G_geq_t rfl rfl (by omega) rfl ?_
      | refine G_geq_f rfl rfl (by omega) rfl ?_
      | refine G_geq rfl rfl rfl ?_
      | refine G_sub rfl rfl rfl (by first | exact IntWalk.i64_in _ (by omega) | rfl) ?_
      | refine G_mul rfl rfl rfl (by first | exact IntWalk.i64_in _ (by omega) | rfl) ?_
      | refine G_xor64 rfl rfl rfl ?_
      | refine G_mul64 rfl rfl rfl ?_
      | refine G_or64 rfl rfl rfl ?_
      | refine G_and64 rfl rfl rfl ?_
      | refine G_add64 rfl rfl rfl ?_
      | refine G_sub64 rfl rfl rfl ?_
      | refine G_shr64 rfl rfl rfl rfl ?_
      | refine G_shl64 rfl rfl rfl rfl ?_)
    | (refine Is_load ?_; first
      | refine G_load rfl rfl rfl ?_
      | refine G_load_cell rfl (by first | assumption | apply_assumption) rfl ?_)
    | (refine Is_store ?_; refine G_store rfl rfl rfl rfl rfl ?_)
    | (refine Is_builtin ?_; first
      | refine G_len rfl rfl ?_)
    | (refine Is_nilCheck ?_; refine G_nilCheck rfl rfl ?_)
    | (refine Is_convert ?_; first
      | refine G_u64_int rfl rfl ?_
      | refine G_to_u64 rfl rfl ?_
      | refine G_conv _ rfl rfl (by first | exact IntWalk.i64_in _ (by omega) | rfl) ?_)
    | (refine Is_fieldAddr ?_; refine G_fieldOff rfl rfl ?_)
    | (refine Is_indexAddr ?_; refine G_indexA rfl rfl (by first | decide | omega) rfl ?_)
    | (refine Is_un ?_; refine G_not rfl rfl ?_)
    | (refine Is_makeFunc ?_; refine G_makeFunc rfl rfl rfl ?_)
    | (refine Is_extract ?_; refine G_extract rfl rfl rfl ?_)
    | (refine Is_guard ?_; first
      | refine G_guard_yes (by rw [hops.eq]; rfl) rfl (by simp) ?_
      | refine G_guard_no (by rw [hops.eq]; rfl) rfl rfl rfl ?_)
    | (refine Is_pick ?_; first
      | refine G_pick_t rfl rfl rfl ?_
      | refine G_pick_f rfl rfl rfl ?_)
    | refine GC_cond_t rfl ?_
    | refine GC_cond_f rfl ?_
    | refine GC_seq ?_
    | refine GC_region (fun ops hops => ?_)
    | (refine G_nil ?_; try clear hops; try clear ops)
    | refine At_then ?_
    | refine GC_skip ?_
    | refine GC_block ?_
    | refine GC_exit ?_
    | refine GC_ret ?_
    | refine At_then_exit ?_
    | refine At_then_ret ?_
    | refine At_block ?_
    | refine At_block_ret ?_
    | refine At_block_hit ?_
    | refine At_block_miss rfl ?_
    | refine At_round_exit ?_
    | refine At_round_ret ?_))
     exact X_done rfl (List.Sublist.refl _))
      apply DR_x rfl rfl rfl
      · intro mm
        repeat (first
    | (refine Is_move ?_; refine G_move rfl rfl ?_)
    | (refine Is_assign ?_; refine G_assign rfl rfl ?_)
    | (refine Is_bin ?_; first
      | refine G_lss_t rfl rfl (by omega) rfl ?_
      | refine G_lss_f rfl rfl (by omega) rfl ?_
      | refine G_lss rfl rfl rfl ?_
      | refine G_add rfl rfl rfl (by first | exact IntWalk.i64_in _ (by omega) | rfl) ?_
      | refine G_eql_t rfl rfl (by first | assumption | with_reducible rfl | decide +kernel | omega) rfl ?_
      | refine G_eql_f rfl rfl (by first | decide +kernel | omega | assumption) rfl ?_
      | refine G_eql rfl rfl rfl ?_
      | refine G_neq_f rfl rfl (by first | assumption | with_reducible rfl | decide +kernel | omega) rfl ?_
      | refine G_neq_t rfl rfl (by first | decide +kernel | omega | assumption) rfl ?_
      | refine G_neq rfl rfl rfl ?_
      | refine G_leq_t rfl rfl (by omega) rfl ?_
      | refine G_leq_f rfl rfl (by omega) rfl ?_
      | refine G_leq rfl rfl rfl ?_
      | refine G_gtr_t rfl rfl (by omega) rfl ?_
      | refine G_gtr_f rfl rfl (by omega) rfl ?_
      | refine G_gtr rfl rfl rfl ?_
      | refine G_geq_t rfl rfl (by omega) rfl ?_
      | refine G_geq_f rfl rfl (by omega) rfl ?_
      | refine G_geq rfl rfl rfl ?_
      | refine G_sub rfl rfl rfl (by first | exact IntWalk.i64_in _ (by omega) | rfl) ?_
      | refine G_mul rfl rfl rfl (by first | exact IntWalk.i64_in _ (by omega) | rfl) ?_
      | refine G_xor64 rfl rfl rfl ?_
      | refine G_mul64 rfl rfl rfl ?_
      | refine G_or64 rfl rfl rfl ?_
      | refine G_and64 rfl rfl rfl ?_
      | refine G_add64 rfl rfl rfl ?_
      | refine G_sub64 rfl rfl rfl ?_
      | refine G_shr64 rfl rfl rfl rfl ?_
      | refine G_shl64 rfl rfl rfl rfl ?_)
    | (refine Is_load ?_; first
      | refine G_load rfl rfl rfl ?_
      | refine G_load_cell rfl (by first | assumption | apply_assumption) rfl ?_)
    | (refine Is_store ?_; refine G_store rfl rfl rfl rfl rfl ?_)
    | (refine Is_builtin ?_; first
      | refine G_len rfl rfl ?_)
    | (refine Is_nilCheck ?_; refine G_nilCheck rfl rfl ?_)
    | (refine Is_convert ?_; first
      | refine G_u64_int rfl rfl ?_
      | refine G_to_u64 rfl rfl ?_
      | refine G_conv _ rfl rfl (by first | exact IntWalk.i64_in _ (by omega) | rfl) ?_)
    | (refine Is_fieldAddr ?_; refine G_fieldOff rfl rfl ?_)
    | (refine Is_indexAddr ?_; refine G_indexA rfl rfl (by first | decide | omega) rfl ?_)
    | (refine Is_un ?_; refine G_not rfl rfl ?_)
    | (refine Is_makeFunc ?_; refine G_makeFunc rfl rfl rfl ?_)
    | (refine Is_extract ?_; refine G_extract rfl rfl rfl ?_)
    | (refine Is_guard ?_; first
      | refine G_guard_yes (by rw [hops.eq]; rfl) rfl (by simp) ?_
      | refine G_guard_no (by rw [hops.eq]; rfl) rfl rfl rfl ?_)
    | (refine Is_pick ?_; first
      | refine G_pick_t rfl rfl rfl ?_
      | refine G_pick_f rfl rfl rfl ?_)
    | refine GC_cond_t rfl ?_
    | refine GC_cond_f rfl ?_
    | refine GC_seq ?_
    | refine GC_region (fun ops hops => ?_)
    | (refine G_nil ?_; try clear hops; try clear ops)
    | refine At_then ?_
    | refine GC_skip ?_
    | refine GC_block ?_
    | refine GC_exit ?_
    | refine GC_ret ?_
    | refine At_then_exit ?_
    | refine At_then_ret ?_
    | refine At_block ?_
    | refine At_block_ret ?_
    | refine At_block_hit ?_
    | refine At_block_miss rfl ?_
    | refine At_round_exit ?_
    | refine At_round_ret ?_)
        refine G_rem rfl rfl (by omega) rfl (r := bkt d n) (by subst hp; exact (Int.tmod_eq_emod_of_nonneg c0).trans (bkt_mul d n _)) ?_
        repeat (first
    | (refine Is_move ?_; refine G_move rfl rfl ?_)
    | (refine Is_assign ?_; refine G_assign rfl rfl ?_)
    | (refine Is_bin ?_; first
      | refine G_lss_t rfl rfl (by omega) rfl ?_
      | refine G_lss_f rfl rfl (by omega) rfl ?_
      | refine G_lss rfl rfl rfl ?_
      | refine G_add rfl rfl rfl (by first | exact IntWalk.i64_in _ (by omega) | rfl) ?_
      | refine G_eql_t rfl rfl (by first | assumption | with_reducible rfl | decide +kernel | omega) rfl ?_
      | refine G_eql_f rfl rfl (by first | decide +kernel | omega | assumption) rfl ?_
      | refine G_eql rfl rfl rfl ?_
      | refine G_neq_f rfl rfl (by first | assumption | with_reducible rfl | decide +kernel | omega) rfl ?_
      | refine G_neq_t rfl rfl (by first | decide +kernel | omega | assumption) rfl ?_
      | refine G_neq rfl rfl rfl ?_
      | refine G_leq_t rfl rfl (by omega) rfl ?_
      | refine G_leq_f rfl rfl (by omega) rfl ?_
      | refine G_leq rfl rfl rfl ?_
      | refine G_gtr_t rfl rfl (by omega) rfl ?_
      | refine G_gtr_f rfl rfl (by omega) rfl ?_
      | refine G_gtr rfl rfl rfl ?_
      | refine G_geq_t rfl rfl (by omega) rfl ?_
      | refine G_geq_f rfl rfl (by omega) rfl ?_
      | refine G_geq rfl rfl rfl ?_
      | refine G_sub rfl rfl rfl (by first | exact IntWalk.i64_in _ (by omega) | rfl) ?_
      | refine G_mul rfl rfl rfl (by first | exact IntWalk.i64_in _ (by omega) | rfl) ?_
      | refine G_xor64 rfl rfl rfl ?_
      | refine G_mul64 rfl rfl rfl ?_
      | refine G_or64 rfl rfl rfl ?_
      | refine G_and64 rfl rfl rfl ?_
      | refine G_add64 rfl rfl rfl ?_
      | refine G_sub64 rfl rfl rfl ?_
      | refine G_shr64 rfl rfl rfl rfl ?_
      | refine G_shl64 rfl rfl rfl rfl ?_)
    | (refine Is_load ?_; first
      | refine G_load rfl rfl rfl ?_
      | refine G_load_cell rfl (by first | assumption | apply_assumption) rfl ?_)
    | (refine Is_store ?_; refine G_store rfl rfl rfl rfl rfl ?_)
    | (refine Is_builtin ?_; first
      | refine G_len rfl rfl ?_)
    | (refine Is_nilCheck ?_; refine G_nilCheck rfl rfl ?_)
    | (refine Is_convert ?_; first
      | refine G_u64_int rfl rfl ?_
      | refine G_to_u64 rfl rfl ?_
      | refine G_conv _ rfl rfl (by first | exact IntWalk.i64_in _ (by omega) | rfl) ?_)
    | (refine Is_fieldAddr ?_; refine G_fieldOff rfl rfl ?_)
    | (refine Is_indexAddr ?_; refine G_indexA rfl rfl (by first | decide | omega) rfl ?_)
    | (refine Is_un ?_; refine G_not rfl rfl ?_)
    | (refine Is_makeFunc ?_; refine G_makeFunc rfl rfl rfl ?_)
    | (refine Is_extract ?_; refine G_extract rfl rfl rfl ?_)
    | (refine Is_guard ?_; first
      | refine G_guard_yes (by rw [hops.eq]; rfl) rfl (by simp) ?_
      | refine G_guard_no (by rw [hops.eq]; rfl) rfl rfl rfl ?_)
    | (refine Is_pick ?_; first
      | refine G_pick_t rfl rfl rfl ?_
      | refine G_pick_f rfl rfl rfl ?_)
    | refine GC_cond_t rfl ?_
    | refine GC_cond_f rfl ?_
    | refine GC_seq ?_
    | refine GC_region (fun ops hops => ?_)
    | (refine G_nil ?_; try clear hops; try clear ops)
    | refine At_then ?_
    | refine GC_skip ?_
    | refine GC_block ?_
    | refine GC_exit ?_
    | refine GC_ret ?_
    | refine At_then_exit ?_
    | refine At_then_ret ?_
    | refine At_block ?_
    | refine At_block_ret ?_
    | refine At_block_hit ?_
    | refine At_block_miss rfl ?_
    | refine At_round_exit ?_
    | refine At_round_ret ?_)
        (refine X_done rfl ?_; first | exact List.Sublist.refl _ | exact List.sublist_append_right _ _ | exact List.Sublist.cons _ (List.Sublist.refl _))
      repeat
  apply DR_x rfl rfl rfl
  (· intro mm
     (repeat (first
    | (refine Is_move ?_; refine G_move rfl rfl ?_)
    | (refine Is_assign ?_; refine G_assign rfl rfl ?_)
    | (refine Is_bin ?_; first
      | refine G_lss_t rfl rfl (by omega) rfl ?_
      | refine G_lss_f rfl rfl (by omega) rfl ?_
      | refine G_lss rfl rfl rfl ?_
      | refine G_add rfl rfl rfl (by first | exact IntWalk.i64_in _ (by omega) | rfl) ?_
      | refine G_eql_t rfl rfl (by first | assumption | with_reducible rfl | decide +kernel | omega) rfl ?_
      | refine G_eql_f rfl rfl (by first | decide +kernel | omega | assumption) rfl ?_
      | refine G_eql rfl rfl rfl ?_
      | refine G_neq_f rfl rfl (by first | assumption | with_reducible rfl | decide +kernel | omega) rfl ?_
      | refine G_neq_t rfl rfl (by first | decide +kernel | omega | assumption) rfl ?_
      | refine G_neq rfl rfl rfl ?_
      | refine G_leq_t rfl rfl (by omega) rfl ?_
      | refine G_leq_f rfl rfl (by omega) rfl ?_
      | refine G_leq rfl rfl rfl ?_
      | refine G_gtr_t rfl rfl (by omega) rfl ?_
      | refine G_gtr_f rfl rfl (by omega) rfl ?_
      | refine G_gtr rfl rfl rfl ?_
      | refine G_geq_t rfl rfl (by omega) rfl ?_
      | refine G_geq_f rfl rfl (by omega) rfl ?_
      | refine G_geq rfl rfl rfl ?_
      | refine G_sub rfl rfl rfl (by first | exact IntWalk.i64_in _ (by omega) | rfl) ?_
      | refine G_mul rfl rfl rfl (by first | exact IntWalk.i64_in _ (by omega) | rfl) ?_
      | refine G_xor64 rfl rfl rfl ?_
      | refine G_mul64 rfl rfl rfl ?_
      | refine G_or64 rfl rfl rfl ?_
      | refine G_and64 rfl rfl rfl ?_
      | refine G_add64 rfl rfl rfl ?_
      | refine G_sub64 rfl rfl rfl ?_
      | refine G_shr64 rfl rfl rfl rfl ?_
      | refine G_shl64 rfl rfl rfl rfl ?_)
    | (refine Is_load ?_; first
      | refine G_load rfl rfl rfl ?_
      | refine G_load_cell rfl (by first | assumption | apply_assumption) rfl ?_)
    | (refine Is_store ?_; refine G_store rfl rfl rfl rfl rfl ?_)
    | (refine Is_builtin ?_; first
      | refine G_len rfl rfl ?_)
    | (refine Is_nilCheck ?_; refine G_nilCheck rfl rfl ?_)
    | (refine Is_convert ?_; first
      | refine G_u64_int rfl rfl ?_
      | refine G_to_u64 rfl rfl ?_
      | refine G_conv _ rfl rfl (by first | exact IntWalk.i64_in _ (by omega) | rfl) ?_)
    | (refine Is_fieldAddr ?_; refine G_fieldOff rfl rfl ?_)
    | (refine Is_indexAddr ?_; refine G_indexA rfl rfl (by first | decide | omega) rfl ?_)
    | (refine Is_un ?_; refine G_not rfl rfl ?_)
    | (refine Is_makeFunc ?_; refine G_makeFunc rfl rfl rfl ?_)
    | (refine Is_extract ?_; refine G_extract rfl rfl rfl ?_)
    | (refine Is_guard ?_; first
      | refine G_guard_yes (by rw [hops.eq]; rfl) rfl (by simp) ?_
      | refine G_guard_no (by rw [hops.eq]; rfl) rfl rfl rfl ?_)
    | (refine Is_pick ?_; first
      | refine G_pick_t rfl rfl rfl ?_
      | refine G_pick_f rfl rfl rfl ?_)
    | refine GC_cond_t rfl ?_
    | refine GC_cond_f rfl ?_
    | refine GC_seq ?_
    | refine GC_region (fun ops hops => ?_)
    | (refine G_nil ?_; try clear hops; try clear ops)
    | refine At_then ?_
    | refine GC_skip ?_
    | refine GC_block ?_
    | refine GC_exit ?_
    | refine GC_ret ?_
    | refine At_then_exit ?_
    | refine At_then_ret ?_
    | refine At_block ?_
    | refine At_block_ret ?_
    | refine At_block_hit ?_
    | refine At_block_miss rfl ?_
    | refine At_round_exit ?_
    | refine At_round_ret ?_))
     exact X_done rfl (List.Sublist.refl _))
      refine DR_nil rfl ?_
      repeat (first
    | (refine Is_move ?_; refine G_move rfl rfl ?_)
    | (refine Is_assign ?_; refine G_assign rfl rfl ?_)
    | (refine Is_bin ?_; first
      | refine G_lss_t rfl rfl (by omega) rfl ?_
      | refine G_lss_f rfl rfl (by omega) rfl ?_
      | refine G_lss rfl rfl rfl ?_
      | refine G_add rfl rfl rfl (by first | exact IntWalk.i64_in _ (by omega) | rfl) ?_
      | refine G_eql_t rfl rfl (by first | assumption | with_reducible rfl | decide +kernel | omega) rfl ?_
      | refine G_eql_f rfl rfl (by first | decide +kernel | omega | assumption) rfl ?_
      | refine G_eql rfl rfl rfl ?_
      | refine G_neq_f rfl rfl (by first | assumption | with_reducible rfl | decide +kernel | omega) rfl ?_
      | refine G_neq_t rfl rfl (by first | decide +kernel | omega | assumption) rfl ?_
      | refine G_neq rfl rfl rfl ?_
      | refine G_leq_t rfl rfl (by omega) rfl ?_
      | refine G_leq_f rfl rfl (by omega) rfl ?_
      | refine G_leq rfl rfl rfl ?_
      | refine G_gtr_t rfl rfl (by omega) rfl ?_
      | refine G_gtr_f rfl rfl (by omega) rfl ?_
      | refine G_gtr rfl rfl rfl ?_
      | refine G_geq_t rfl rfl (by omega) rfl ?_
      | refine G_geq_f rfl rfl (by omega) rfl ?_
      | refine G_geq rfl rfl rfl ?_
      | refine G_sub rfl rfl rfl (by first | exact IntWalk.i64_in _ (by omega) | rfl) ?_
      | refine G_mul rfl rfl rfl (by first | exact IntWalk.i64_in _ (by omega) | rfl) ?_
      | refine G_xor64 rfl rfl rfl ?_
      | refine G_mul64 rfl rfl rfl ?_
      | refine G_or64 rfl rfl rfl ?_
      | refine G_and64 rfl rfl rfl ?_
      | refine G_add64 rfl rfl rfl ?_
      | refine G_sub64 rfl rfl rfl ?_
      | refine G_shr64 rfl rfl rfl rfl ?_
      | refine G_shl64 rfl rfl rfl rfl ?_)
    | (refine Is_load ?_; first
      | refine G_load rfl rfl rfl ?_
      | refine G_load_cell rfl (by first | assumption | apply_assumption) rfl ?_)
    | (refine Is_store ?_; refine G_store rfl rfl rfl rfl rfl ?_)
    | (refine Is_builtin ?_; first
      | refine G_len rfl rfl ?_)
    | (refine Is_nilCheck ?_; refine G_nilCheck rfl rfl ?_)
    | (refine Is_convert ?_; first
      | refine G_u64_int rfl rfl ?_
      | refine G_to_u64 rfl rfl ?_
      | refine G_conv _ rfl rfl (by first | exact IntWalk.i64_in _ (by omega) | rfl) ?_)
    | (refine Is_fieldAddr ?_; refine G_fieldOff rfl rfl ?_)
    | (refine Is_indexAddr ?_; refine G_indexA rfl rfl (by first | decide | omega) rfl ?_)
    | (refine Is_un ?_; refine G_not rfl rfl ?_)
    | (refine Is_makeFunc ?_; refine G_makeFunc rfl rfl rfl ?_)
    | (refine Is_extract ?_; refine G_extract rfl rfl rfl ?_)
    | (refine Is_guard ?_; first
      | refine G_guard_yes (by rw [hops.eq]; rfl) rfl (by simp) ?_
      | refine G_guard_no (by rw [hops.eq]; rfl) rfl rfl rfl ?_)
    | (refine Is_pick ?_; first
      | refine G_pick_t rfl rfl rfl ?_
      | refine G_pick_f rfl rfl rfl ?_)
    | refine GC_cond_t rfl ?_
    | refine GC_cond_f rfl ?_
    | refine GC_seq ?_
    | refine GC_region (fun ops hops => ?_)
    | (refine G_nil ?_; try clear hops; try clear ops)
    | refine At_then ?_
    | refine GC_skip ?_
    | refine GC_block ?_
    | refine GC_exit ?_
    | refine GC_ret ?_
    | refine At_then_exit ?_
    | refine At_then_ret ?_
    | refine At_block ?_
    | refine At_block_ret ?_
    | refine At_block_hit ?_
    | refine At_block_miss rfl ?_
    | refine At_round_exit ?_
    | refine At_round_ret ?_)
      exact ret_one rfl rfl fun w' h' => ⟨rfl, h'.drop (by simp)⟩
end Go.Proofs.Ytcmjfmofaligfaa
