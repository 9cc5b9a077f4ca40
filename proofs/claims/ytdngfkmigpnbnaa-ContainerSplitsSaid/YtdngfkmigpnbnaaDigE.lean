/- Contracts: the reference's digests of lists and of bytes; buckets; the law's helpers. -/
import Derived.Test.YtdngfkmigpnbnaaDigD
set_option linter.unusedVariables false
set_option linter.unusedSimpArgs false
set_option maxRecDepth 100000
set_option maxHeartbeats 4000000
namespace Go.Proofs.Ytdngfkmigpnbnaa
open Go.RowKit
attribute [local irreducible] G GC At wpL DR XPost CPost Cut GA GAR GAX GAt NxA GH GHR NxH

theorem ref_Bytes (v : Value) (bs : List (BitVec 8)) (w : World) (hv : Rd w v 1 (bs.map B8)) (hsm : bs.length ≤ 140737488351232) : Calls Try.prog 48 #[v] w (Is w (U (stepB (foldB 0x6279746573#64 (words bs)) (BitVec.ofNat 64 bs.length)))) := by
  have hO := RdO.old hv
  obtain ⟨A, n, c, rfl, h1, h2, h3, h4⟩ := hv
  obtain rfl : bs.length = n := by simpa using h1
  have hw := words_length bs
  refine enter (N := 46) (args := [.slice A bs.length c]) Try.func48 rfl rfl rfl (St.refl w) ?_
  repeat (first
    | (refine Is_move ?_; refine G_move rfl rfl ?_)
    | (refine Is_assign ?_; refine G_assign rfl rfl ?_)
    | (refine Is_bin ?_; first
      | refine G_lss rfl rfl rfl ?_
      | refine G_add rfl rfl rfl (by first | exact IntWalk.i64_in _ (by omega) | rfl) ?_
      | refine G_eql rfl rfl rfl ?_
      | refine G_neq rfl rfl rfl ?_
      | refine G_leq rfl rfl rfl ?_
      | refine G_gtr rfl rfl rfl ?_
      | refine G_geq rfl rfl rfl ?_
      | refine G_sub rfl rfl rfl (by first | exact IntWalk.i64_in _ (by omega) | rfl) ?_
      | refine G_mul rfl rfl rfl (by first | exact IntWalk.i64_in _ (by omega) | rfl) ?_
      | refine G_xor64 rfl rfl rfl ?_
      | refine G_mul64 rfl rfl rfl ?_
      | refine G_or64 rfl rfl rfl ?_
      | refine G_and64 rfl rfl rfl ?_
      | refine G_add64 rfl rfl rfl ?_
      | refine G_sub64 rfl rfl rfl ?_
      | refine G_shr64 rfl rfl rfl rfl ?_
      | refine G_shl64 rfl rfl rfl rfl ?_)
    | (refine Is_load ?_; first
      | refine G_load rfl rfl rfl ?_
      | refine G_load_cell rfl (by first | assumption | (apply_assumption; done) | fail) rfl ?_)
    | (refine Is_store ?_; refine G_store rfl rfl rfl rfl rfl ?_)
    | (refine Is_builtin ?_; first
      | refine G_len rfl rfl ?_)
    | (refine Is_nilCheck ?_; refine G_nilCheck rfl rfl ?_)
    | (refine Is_convert ?_; first
      | refine G_u64_int rfl rfl ?_
      | refine G_to_u64 rfl rfl ?_
      | refine G_conv _ rfl rfl (by first | exact IntWalk.i64_in _ (by omega) | rfl) ?_)
    | (refine Is_fieldAddr ?_; refine G_fieldOff rfl rfl ?_)
    | (refine Is_indexAddr ?_; first
      | refine G_indexA rfl rfl (by first | decide | omega) rfl ?_
      | refine G_indexP rfl rfl (by first | assumption | omega) rfl ?_)
    | (refine Is_un ?_; refine G_not rfl rfl ?_)
    | (refine Is_makeFunc ?_; refine G_makeFunc rfl rfl rfl ?_)
    | (refine Is_extract ?_; refine G_extract rfl rfl rfl ?_)
    | refine GC_seq ?_
    | refine GC_region (fun ops hops => ?_)
    | (refine G_nil ?_; try clear hops; try clear ops)
    | refine At_then ?_
    | refine GC_skip ?_
    | refine GC_block ?_
    | refine GC_exit ?_
    | refine GC_ret ?_
    | refine At_then_exit ?_
    | refine At_then_ret ?_
    | refine At_block ?_
    | refine At_block_ret ?_
    | refine At_block_hit ?_
    | refine At_block_miss rfl ?_
    | refine At_round_exit ?_
    | refine At_round_ret ?_)
  refine GC_loop' (X := Nat) (fun g => g ≤ (words bs).length) (fun g => [(0, .slice A bs.length c), (3, U (foldB 0x6279746573#64 ((words bs).take g))), (4, I ((8 * g : Nat)))]) (fun g => []) (fun g => (words bs).length - g) 0 (Nat.zero_le _) ⟨rfl, rfl, rfl, trivial⟩ (fun w h => h) ?_
  intro g hg
  by_cases hlt : g < (words bs).length
  · repeat (first
    | (refine Is_move ?_; refine G_move rfl rfl ?_)
    | (refine Is_assign ?_; refine G_assign rfl rfl ?_)
    | (refine Is_bin ?_; first
      | refine G_lss_t rfl rfl (by omega) rfl ?_
      | refine G_lss_f rfl rfl (by omega) rfl ?_
      | refine G_lss rfl rfl rfl ?_
      | refine G_add rfl rfl rfl (by first | exact IntWalk.i64_in _ (by omega) | rfl) ?_
      | refine G_eql_t rfl rfl (by first | with_reducible rfl | assumption | decide +kernel | omega) rfl ?_
      | refine G_eql_f rfl rfl (by first | decide +kernel | omega | assumption) rfl ?_
      | refine G_eql rfl rfl rfl ?_
      | refine G_neq_f rfl rfl (by first | with_reducible rfl | assumption | decide +kernel | omega) rfl ?_
      | refine G_neq_t rfl rfl (by first | decide +kernel | omega | assumption) rfl ?_
      | refine G_neq rfl rfl rfl ?_
      | refine G_leq_t rfl rfl (by omega) rfl ?_
      | refine G_leq_f rfl rfl (by omega) rfl ?_
      | refine G_leq rfl rfl rfl ?_
      | refine G_gtr_t rfl rfl (by omega) rfl ?_
      | refine G_gtr_f rfl rfl (by omega) rfl ?_
      | refine G_gtr rfl rfl rfl ?_
      | refine G_geq_t rfl rfl (by omega) rfl ?_
      | refine G_geq_f rfl rfl (by omega) rfl ?_
      | refine G_geq rfl rfl rfl ?_
      | refine G_sub rfl rfl rfl (by first | exact IntWalk.i64_in _ (by omega) | rfl) ?_
      | refine G_mul rfl rfl rfl (by first | exact IntWalk.i64_in _ (by omega) | rfl) ?_
      | refine G_xor64 rfl rfl rfl ?_
      | refine G_mul64 rfl rfl rfl ?_
      | refine G_or64 rfl rfl rfl ?_
      | refine G_and64 rfl rfl rfl ?_
      | refine G_add64 rfl rfl rfl ?_
      | refine G_sub64 rfl rfl rfl ?_
      | refine G_shr64 rfl rfl rfl rfl ?_
      | refine G_shl64 rfl rfl rfl rfl ?_
      | refine G_add8 rfl rfl rfl ?_
      | refine G_sub8 rfl rfl rfl ?_
      | refine G_xor8 rfl rfl rfl ?_
      | refine G_or8 rfl rfl rfl ?_
      | refine G_and8 rfl rfl rfl ?_
      | refine G_shr8 rfl rfl rfl rfl ?_
      | refine G_shl8 rfl rfl rfl rfl ?_
      | refine G_eqlB rfl rfl rfl ?_
      | refine G_neqB rfl rfl rfl ?_)
    | (refine Is_load ?_; first
      | refine G_load rfl rfl rfl ?_
      | refine G_load_cell rfl (by first | assumption | (apply_assumption; done) | fail) rfl ?_)
    | (refine Is_store ?_; refine G_store rfl rfl rfl rfl rfl ?_)
    | (refine Is_builtin ?_; first
      | refine G_len rfl rfl ?_)
    | (refine Is_nilCheck ?_; refine G_nilCheck rfl rfl ?_)
    | (refine Is_convert ?_; first
      | refine G_u64_int rfl rfl ?_
      | refine G_to_u64 rfl rfl ?_
      | refine G_low8 rfl rfl rfl ?_
      | refine G_conv _ rfl rfl (IntWalk.i64_in _ (by omega)) ?_
      | refine G_to_u8 rfl rfl ?_
      | refine G_conv _ rfl rfl rfl ?_)
    | (refine Is_fieldAddr ?_; refine G_fieldOff rfl rfl ?_)
    | (refine Is_indexAddr ?_; first
      | refine G_indexA rfl rfl (by first | decide | omega) rfl ?_
      | refine G_indexP rfl rfl (by first | assumption | omega) rfl ?_)
    | (refine Is_un ?_; refine G_not rfl rfl ?_)
    | (refine Is_makeFunc ?_; refine G_makeFunc rfl rfl rfl ?_)
    | (refine Is_extract ?_; refine G_extract rfl rfl rfl ?_)
    | (refine Is_guard ?_; first
      | refine G_guard_yes (by rw [hops.eq]; rfl) rfl (by simp) ?_
      | refine G_guard_no (by rw [hops.eq]; rfl) rfl rfl rfl ?_)
    | (refine Is_pick ?_; first
      | refine G_pick_t rfl rfl rfl ?_
      | refine G_pick_f rfl rfl rfl ?_)
    | refine GC_cond_t rfl ?_
    | refine GC_cond_f rfl ?_
    | refine GC_seq ?_
    | refine GC_region (fun ops hops => ?_)
    | (refine G_nil ?_; try clear hops; try clear ops)
    | refine At_then ?_
    | refine GC_skip ?_
    | refine GC_block ?_
    | refine GC_exit ?_
    | refine GC_ret ?_
    | refine At_then_exit ?_
    | refine At_then_ret ?_
    | refine At_block ?_
    | refine At_block_ret ?_
    | refine At_block_hit ?_
    | refine At_block_miss rfl ?_
    | refine At_round_exit ?_
    | refine At_round_ret ?_)
    refine GC_loop' (X := Nat) (fun i => i ≤ min 8 (bs.length - 8 * g)) (fun i => [(0, .slice A bs.length c), (3, U (foldB 0x6279746573#64 ((words bs).take g))), (4, I ((8 * g : Nat))), (5, U (wd (bs.drop (8 * g)) i)), (6, I i)]) (fun i => []) (fun i => min 8 (bs.length - 8 * g) - i) 0 (Nat.zero_le _) ⟨rfl, rfl, rfl, rfl, rfl, trivial⟩ (fun w h => h) ?_
    intro i hi
    by_cases hi2 : i < min 8 (bs.length - 8 * g)
    · have hi3 : 8 * g + i < bs.length := by omega
      have hi8 : i < 8 := by omega
      repeat (first
    | (refine Is_move ?_; refine G_move rfl rfl ?_)
    | (refine Is_assign ?_; refine G_assign rfl rfl ?_)
    | (refine Is_bin ?_; first
      | refine G_lss_t rfl rfl (by omega) rfl ?_
      | refine G_lss_f rfl rfl (by omega) rfl ?_
      | refine G_lss rfl rfl rfl ?_
      | refine G_add rfl rfl rfl (by first | exact IntWalk.i64_in _ (by omega) | rfl) ?_
      | refine G_eql_t rfl rfl (by first | with_reducible rfl | assumption | decide +kernel | omega) rfl ?_
      | refine G_eql_f rfl rfl (by first | decide +kernel | omega | assumption) rfl ?_
      | refine G_eql rfl rfl rfl ?_
      | refine G_neq_f rfl rfl (by first | with_reducible rfl | assumption | decide +kernel | omega) rfl ?_
      | refine G_neq_t rfl rfl (by first | decide +kernel | omega | assumption) rfl ?_
      | refine G_neq rfl rfl rfl ?_
      | refine G_leq_t rfl rfl (by omega) rfl ?_
      | refine G_leq_f rfl rfl (by omega) rfl ?_
      | refine G_leq rfl rfl rfl ?_
      | refine G_gtr_t rfl rfl (by omega) rfl ?_
      | refine G_gtr_f rfl rfl (by omega) rfl ?_
      | refine G_gtr rfl rfl rfl ?_
      | refine G_geq_t rfl rfl (by omega) rfl ?_
      | refine G_geq_f rfl rfl (by omega) rfl ?_
      | refine G_geq rfl rfl rfl ?_
      | refine G_sub rfl rfl rfl (by first | exact IntWalk.i64_in _ (by omega) | rfl) ?_
      | refine G_mul rfl rfl rfl (by first | exact IntWalk.i64_in _ (by omega) | rfl) ?_
      | refine G_xor64 rfl rfl rfl ?_
      | refine G_mul64 rfl rfl rfl ?_
      | refine G_or64 rfl rfl rfl ?_
      | refine G_and64 rfl rfl rfl ?_
      | refine G_add64 rfl rfl rfl ?_
      | refine G_sub64 rfl rfl rfl ?_
      | refine G_shr64 rfl rfl rfl rfl ?_
      | refine G_shl64 rfl rfl rfl rfl ?_
      | refine G_add8 rfl rfl rfl ?_
      | refine G_sub8 rfl rfl rfl ?_
      | refine G_xor8 rfl rfl rfl ?_
      | refine G_or8 rfl rfl rfl ?_
      | refine G_and8 rfl rfl rfl ?_
      | refine G_shr8 rfl rfl rfl rfl ?_
      | refine G_shl8 rfl rfl rfl rfl ?_
      | refine G_eqlB rfl rfl rfl ?_
      | refine G_neqB rfl rfl rfl ?_)
    | (refine Is_load ?_; first
      | refine G_load rfl rfl rfl ?_
      | refine G_load_cell rfl (by first | assumption | (apply_assumption; done) | fail) rfl ?_)
    | (refine Is_store ?_; refine G_store rfl rfl rfl rfl rfl ?_)
    | (refine Is_builtin ?_; first
      | refine G_len rfl rfl ?_)
    | (refine Is_nilCheck ?_; refine G_nilCheck rfl rfl ?_)
    | (refine Is_convert ?_; first
      | refine G_u64_int rfl rfl ?_
      | refine G_to_u64 rfl rfl ?_
      | refine G_low8 rfl rfl rfl ?_
      | refine G_conv _ rfl rfl (IntWalk.i64_in _ (by omega)) ?_
      | refine G_to_u8 rfl rfl ?_
      | refine G_conv _ rfl rfl rfl ?_)
    | (refine Is_fieldAddr ?_; refine G_fieldOff rfl rfl ?_)
    | (refine Is_indexAddr ?_; first
      | refine G_indexA rfl rfl (by first | decide | omega) rfl ?_
      | refine G_indexP rfl rfl (by first | assumption | omega) rfl ?_)
    | (refine Is_un ?_; refine G_not rfl rfl ?_)
    | (refine Is_makeFunc ?_; refine G_makeFunc rfl rfl rfl ?_)
    | (refine Is_extract ?_; refine G_extract rfl rfl rfl ?_)
    | (refine Is_guard ?_; first
      | refine G_guard_yes (by rw [hops.eq]; rfl) rfl (by simp) ?_
      | refine G_guard_no (by rw [hops.eq]; rfl) rfl rfl rfl ?_)
    | (refine Is_pick ?_; first
      | refine G_pick_t rfl rfl rfl ?_
      | refine G_pick_f rfl rfl rfl ?_)
    | refine GC_cond_t rfl ?_
    | refine GC_cond_f rfl ?_
    | refine GC_seq ?_
    | refine GC_region (fun ops hops => ?_)
    | (refine G_nil ?_; try clear hops; try clear ops)
    | refine At_then ?_
    | refine GC_skip ?_
    | refine GC_block ?_
    | refine GC_exit ?_
    | refine GC_ret ?_
    | refine At_then_exit ?_
    | refine At_then_ret ?_
    | refine At_block ?_
    | refine At_block_ret ?_
    | refine At_block_hit ?_
    | refine At_block_miss rfl ?_
    | refine At_round_exit ?_
    | refine At_round_ret ?_)
      refine G_index_old (j := 8 * g + i) rfl rfl hO hi3 rfl ?_
      intro ad had
      repeat (first
    | (refine Is_move ?_; refine G_move rfl rfl ?_)
    | (refine Is_assign ?_; refine G_assign rfl rfl ?_)
    | (refine Is_bin ?_; first
      | refine G_lss_t rfl rfl (by omega) rfl ?_
      | refine G_lss_f rfl rfl (by omega) rfl ?_
      | refine G_lss rfl rfl rfl ?_
      | refine G_add rfl rfl rfl (by first | exact IntWalk.i64_in _ (by omega) | rfl) ?_
      | refine G_eql_t rfl rfl (by first | with_reducible rfl | assumption | decide +kernel | omega) rfl ?_
      | refine G_eql_f rfl rfl (by first | decide +kernel | omega | assumption) rfl ?_
      | refine G_eql rfl rfl rfl ?_
      | refine G_neq_f rfl rfl (by first | with_reducible rfl | assumption | decide +kernel | omega) rfl ?_
      | refine G_neq_t rfl rfl (by first | decide +kernel | omega | assumption) rfl ?_
      | refine G_neq rfl rfl rfl ?_
      | refine G_leq_t rfl rfl (by omega) rfl ?_
      | refine G_leq_f rfl rfl (by omega) rfl ?_
      | refine G_leq rfl rfl rfl ?_
      | refine G_gtr_t rfl rfl (by omega) rfl ?_
      | refine G_gtr_f rfl rfl (by omega) rfl ?_
      | refine G_gtr rfl rfl rfl ?_
      | refine G_geq_t rfl rfl (by omega) rfl ?_
      | refine G_geq_f rfl rfl (by omega) rfl ?_
      | refine G_geq rfl rfl rfl ?_
      | refine G_sub rfl rfl rfl (by first | exact IntWalk.i64_in _ (by omega) | rfl) ?_
      | refine G_mul rfl rfl rfl (by first | exact IntWalk.i64_in _ (by omega) | rfl) ?_
      | refine G_xor64 rfl rfl rfl ?_
      | refine G_mul64 rfl rfl rfl ?_
      | refine G_or64 rfl rfl rfl ?_
      | refine G_and64 rfl rfl rfl ?_
      | refine G_add64 rfl rfl rfl ?_
      | refine G_sub64 rfl rfl rfl ?_
      | refine G_shr64 rfl rfl rfl rfl ?_
      | refine G_shl64 rfl rfl rfl rfl ?_
      | refine G_add8 rfl rfl rfl ?_
      | refine G_sub8 rfl rfl rfl ?_
      | refine G_xor8 rfl rfl rfl ?_
      | refine G_or8 rfl rfl rfl ?_
      | refine G_and8 rfl rfl rfl ?_
      | refine G_shr8 rfl rfl rfl rfl ?_
      | refine G_shl8 rfl rfl rfl rfl ?_
      | refine G_eqlB rfl rfl rfl ?_
      | refine G_neqB rfl rfl rfl ?_)
    | (refine Is_load ?_; first
      | refine G_load rfl rfl rfl ?_
      | refine G_load_cell rfl (by first | assumption | (apply_assumption; done) | fail) rfl ?_)
    | (refine Is_store ?_; refine G_store rfl rfl rfl rfl rfl ?_)
    | (refine Is_builtin ?_; first
      | refine G_len rfl rfl ?_)
    | (refine Is_nilCheck ?_; refine G_nilCheck rfl rfl ?_)
    | (refine Is_convert ?_; first
      | refine G_u64_int rfl rfl ?_
      | refine G_to_u64 rfl rfl ?_
      | refine G_low8 rfl rfl rfl ?_
      | refine G_conv _ rfl rfl (IntWalk.i64_in _ (by omega)) ?_
      | refine G_to_u8 rfl rfl ?_
      | refine G_conv _ rfl rfl rfl ?_)
    | (refine Is_fieldAddr ?_; refine G_fieldOff rfl rfl ?_)
    | (refine Is_indexAddr ?_; first
      | refine G_indexA rfl rfl (by first | decide | omega) rfl ?_
      | refine G_indexP rfl rfl (by first | assumption | omega) rfl ?_)
    | (refine Is_un ?_; refine G_not rfl rfl ?_)
    | (refine Is_makeFunc ?_; refine G_makeFunc rfl rfl rfl ?_)
    | (refine Is_extract ?_; refine G_extract rfl rfl rfl ?_)
    | (refine Is_guard ?_; first
      | refine G_guard_yes (by rw [hops.eq]; rfl) rfl (by simp) ?_
      | refine G_guard_no (by rw [hops.eq]; rfl) rfl rfl rfl ?_)
    | (refine Is_pick ?_; first
      | refine G_pick_t rfl rfl rfl ?_
      | refine G_pick_f rfl rfl rfl ?_)
    | refine GC_cond_t rfl ?_
    | refine GC_cond_f rfl ?_
    | refine GC_seq ?_
    | refine GC_region (fun ops hops => ?_)
    | (refine G_nil ?_; try clear hops; try clear ops)
    | refine At_then ?_
    | refine GC_skip ?_
    | refine GC_block ?_
    | refine GC_exit ?_
    | refine GC_ret ?_
    | refine At_then_exit ?_
    | refine At_then_ret ?_
    | refine At_block ?_
    | refine At_block_ret ?_
    | refine At_block_hit ?_
    | refine At_block_miss rfl ?_
    | refine At_round_exit ?_
    | refine At_round_ret ?_)
      refine At_round (i + 1) (by omega) (by omega) ⟨rfl, rfl, rfl, ?_, rfl, trivial⟩ (fun w1 hw1 => hw1)
      simp only [wd]
      have e : bs[8 * g + i] = (bs.drop (8 * g))[i]?.getD 0#8 := by simp [List.getElem?_eq_getElem, hi3]
      have e2 : (BitVec.ofNat 64 (8 * i)).toNat = 8 * i := by simp; omega
      rw [← e, ← e2]
      rfl
    · obtain rfl : i = min 8 (bs.length - 8 * g) := by omega
      by_cases h8 : min 8 (bs.length - 8 * g) < 8
      all_goals
        repeat (first
    | (refine Is_move ?_; refine G_move rfl rfl ?_)
    | (refine Is_assign ?_; refine G_assign rfl rfl ?_)
    | (refine Is_bin ?_; first
      | refine G_lss_t rfl rfl (by omega) rfl ?_
      | refine G_lss_f rfl rfl (by omega) rfl ?_
      | refine G_lss rfl rfl rfl ?_
      | refine G_add rfl rfl rfl (by first | exact IntWalk.i64_in _ (by omega) | rfl) ?_
      | refine G_eql_t rfl rfl (by first | with_reducible rfl | assumption | decide +kernel | omega) rfl ?_
      | refine G_eql_f rfl rfl (by first | decide +kernel | omega | assumption) rfl ?_
      | refine G_eql rfl rfl rfl ?_
      | refine G_neq_f rfl rfl (by first | with_reducible rfl | assumption | decide +kernel | omega) rfl ?_
      | refine G_neq_t rfl rfl (by first | decide +kernel | omega | assumption) rfl ?_
      | refine G_neq rfl rfl rfl ?_
      | refine G_leq_t rfl rfl (by omega) rfl ?_
      | refine G_leq_f rfl rfl (by omega) rfl ?_
      | refine G_leq rfl rfl rfl ?_
      | refine G_gtr_t rfl rfl (by omega) rfl ?_
      | refine G_gtr_f rfl rfl (by omega) rfl ?_
      | refine G_gtr rfl rfl rfl ?_
      | refine G_geq_t rfl rfl (by omega) rfl ?_
      | refine G_geq_f rfl rfl (by omega) rfl ?_
      | refine G_geq rfl rfl rfl ?_
      | refine G_sub rfl rfl rfl (by first | exact IntWalk.i64_in _ (by omega) | rfl) ?_
      | refine G_mul rfl rfl rfl (by first | exact IntWalk.i64_in _ (by omega) | rfl) ?_
      | refine G_xor64 rfl rfl rfl ?_
      | refine G_mul64 rfl rfl rfl ?_
      | refine G_or64 rfl rfl rfl ?_
      | refine G_and64 rfl rfl rfl ?_
      | refine G_add64 rfl rfl rfl ?_
      | refine G_sub64 rfl rfl rfl ?_
      | refine G_shr64 rfl rfl rfl rfl ?_
      | refine G_shl64 rfl rfl rfl rfl ?_
      | refine G_add8 rfl rfl rfl ?_
      | refine G_sub8 rfl rfl rfl ?_
      | refine G_xor8 rfl rfl rfl ?_
      | refine G_or8 rfl rfl rfl ?_
      | refine G_and8 rfl rfl rfl ?_
      | refine G_shr8 rfl rfl rfl rfl ?_
      | refine G_shl8 rfl rfl rfl rfl ?_
      | refine G_eqlB rfl rfl rfl ?_
      | refine G_neqB rfl rfl rfl ?_)
    | (refine Is_load ?_; first
      | refine G_load rfl rfl rfl ?_
      | refine G_load_cell rfl (by first | assumption | (apply_assumption; done) | fail) rfl ?_)
    | (refine Is_store ?_; refine G_store rfl rfl rfl rfl rfl ?_)
    | (refine Is_builtin ?_; first
      | refine G_len rfl rfl ?_)
    | (refine Is_nilCheck ?_; refine G_nilCheck rfl rfl ?_)
    | (refine Is_convert ?_; first
      | refine G_u64_int rfl rfl ?_
      | refine G_to_u64 rfl rfl ?_
      | refine G_low8 rfl rfl rfl ?_
      | refine G_conv _ rfl rfl (IntWalk.i64_in _ (by omega)) ?_
      | refine G_to_u8 rfl rfl ?_
      | refine G_conv _ rfl rfl rfl ?_)
    | (refine Is_fieldAddr ?_; refine G_fieldOff rfl rfl ?_)
    | (refine Is_indexAddr ?_; first
      | refine G_indexA rfl rfl (by first | decide | omega) rfl ?_
      | refine G_indexP rfl rfl (by first | assumption | omega) rfl ?_)
    | (refine Is_un ?_; refine G_not rfl rfl ?_)
    | (refine Is_makeFunc ?_; refine G_makeFunc rfl rfl rfl ?_)
    | (refine Is_extract ?_; refine G_extract rfl rfl rfl ?_)
    | (refine Is_guard ?_; first
      | refine G_guard_yes (by rw [hops.eq]; rfl) rfl (by simp) ?_
      | refine G_guard_no (by rw [hops.eq]; rfl) rfl rfl rfl ?_)
    | (refine Is_pick ?_; first
      | refine G_pick_t rfl rfl rfl ?_
      | refine G_pick_f rfl rfl rfl ?_)
    | refine GC_cond_t rfl ?_
    | refine GC_cond_f rfl ?_
    | refine GC_seq ?_
    | refine GC_region (fun ops hops => ?_)
    | (refine G_nil ?_; try clear hops; try clear ops)
    | refine At_then ?_
    | refine GC_skip ?_
    | refine GC_block ?_
    | refine GC_exit ?_
    | refine GC_ret ?_
    | refine At_then_exit ?_
    | refine At_then_ret ?_
    | refine At_block ?_
    | refine At_block_ret ?_
    | refine At_block_hit ?_
    | refine At_block_miss rfl ?_
    | refine At_round_exit ?_
    | refine At_round_ret ?_)
        refine G_call rfl (fun w1 _ => ref_Step _ _ w1) rfl ?_
        repeat (first
    | (refine Is_move ?_; refine G_move rfl rfl ?_)
    | (refine Is_assign ?_; refine G_assign rfl rfl ?_)
    | (refine Is_bin ?_; first
      | refine G_lss_t rfl rfl (by omega) rfl ?_
      | refine G_lss_f rfl rfl (by omega) rfl ?_
      | refine G_lss rfl rfl rfl ?_
      | refine G_add rfl rfl rfl (by first | exact IntWalk.i64_in _ (by omega) | rfl) ?_
      | refine G_eql_t rfl rfl (by first | with_reducible rfl | assumption | decide +kernel | omega) rfl ?_
      | refine G_eql_f rfl rfl (by first | decide +kernel | omega | assumption) rfl ?_
      | refine G_eql rfl rfl rfl ?_
      | refine G_neq_f rfl rfl (by first | with_reducible rfl | assumption | decide +kernel | omega) rfl ?_
      | refine G_neq_t rfl rfl (by first | decide +kernel | omega | assumption) rfl ?_
      | refine G_neq rfl rfl rfl ?_
      | refine G_leq_t rfl rfl (by omega) rfl ?_
      | refine G_leq_f rfl rfl (by omega) rfl ?_
      | refine G_leq rfl rfl rfl ?_
      | refine G_gtr_t rfl rfl (by omega) rfl ?_
      | refine G_gtr_f rfl rfl (by omega) rfl ?_
      | refine G_gtr rfl rfl rfl ?_
      | refine G_geq_t rfl rfl (by omega) rfl ?_
      | refine G_geq_f rfl rfl (by omega) rfl ?_
      | refine G_geq rfl rfl rfl ?_
      | refine G_sub rfl rfl rfl (by first | exact IntWalk.i64_in _ (by omega) | rfl) ?_
      | refine G_mul rfl rfl rfl (by first | exact IntWalk.i64_in _ (by omega) | rfl) ?_
      | refine G_xor64 rfl rfl rfl ?_
      | refine G_mul64 rfl rfl rfl ?_
      | refine G_or64 rfl rfl rfl ?_
      | refine G_and64 rfl rfl rfl ?_
      | refine G_add64 rfl rfl rfl ?_
      | refine G_sub64 rfl rfl rfl ?_
      | refine G_shr64 rfl rfl rfl rfl ?_
      | refine G_shl64 rfl rfl rfl rfl ?_
      | refine G_add8 rfl rfl rfl ?_
      | refine G_sub8 rfl rfl rfl ?_
      | refine G_xor8 rfl rfl rfl ?_
      | refine G_or8 rfl rfl rfl ?_
      | refine G_and8 rfl rfl rfl ?_
      | refine G_shr8 rfl rfl rfl rfl ?_
      | refine G_shl8 rfl rfl rfl rfl ?_
      | refine G_eqlB rfl rfl rfl ?_
      | refine G_neqB rfl rfl rfl ?_)
    | (refine Is_load ?_; first
      | refine G_load rfl rfl rfl ?_
      | refine G_load_cell rfl (by first | assumption | (apply_assumption; done) | fail) rfl ?_)
    | (refine Is_store ?_; refine G_store rfl rfl rfl rfl rfl ?_)
    | (refine Is_builtin ?_; first
      | refine G_len rfl rfl ?_)
    | (refine Is_nilCheck ?_; refine G_nilCheck rfl rfl ?_)
    | (refine Is_convert ?_; first
      | refine G_u64_int rfl rfl ?_
      | refine G_to_u64 rfl rfl ?_
      | refine G_low8 rfl rfl rfl ?_
      | refine G_conv _ rfl rfl (IntWalk.i64_in _ (by omega)) ?_
      | refine G_to_u8 rfl rfl ?_
      | refine G_conv _ rfl rfl rfl ?_)
    | (refine Is_fieldAddr ?_; refine G_fieldOff rfl rfl ?_)
    | (refine Is_indexAddr ?_; first
      | refine G_indexA rfl rfl (by first | decide | omega) rfl ?_
      | refine G_indexP rfl rfl (by first | assumption | omega) rfl ?_)
    | (refine Is_un ?_; refine G_not rfl rfl ?_)
    | (refine Is_makeFunc ?_; refine G_makeFunc rfl rfl rfl ?_)
    | (refine Is_extract ?_; refine G_extract rfl rfl rfl ?_)
    | (refine Is_guard ?_; first
      | refine G_guard_yes (by rw [hops.eq]; rfl) rfl (by simp) ?_
      | refine G_guard_no (by rw [hops.eq]; rfl) rfl rfl rfl ?_)
    | (refine Is_pick ?_; first
      | refine G_pick_t rfl rfl rfl ?_
      | refine G_pick_f rfl rfl rfl ?_)
    | refine GC_cond_t rfl ?_
    | refine GC_cond_f rfl ?_
    | refine GC_seq ?_
    | refine GC_region (fun ops hops => ?_)
    | (refine G_nil ?_; try clear hops; try clear ops)
    | refine At_then ?_
    | refine GC_skip ?_
    | refine GC_block ?_
    | refine GC_exit ?_
    | refine GC_ret ?_
    | refine At_then_exit ?_
    | refine At_then_ret ?_
    | refine At_block ?_
    | refine At_block_ret ?_
    | refine At_block_hit ?_
    | refine At_block_miss rfl ?_
    | refine At_round_exit ?_
    | refine At_round_ret ?_)
        refine At_round (g + 1) (by omega) (by omega) ⟨rfl, ?_, ?_, trivial⟩ (fun w1 hw1 => hw1)
        · rw [foldB_take _ _ g hlt, words_at bs g hlt]
          rfl
        · show some (I _) = some (I _)
          congr 2
  · obtain rfl : g = (words bs).length := by omega
    repeat (first
    | (refine Is_move ?_; refine G_move rfl rfl ?_)
    | (refine Is_assign ?_; refine G_assign rfl rfl ?_)
    | (refine Is_bin ?_; first
      | refine G_lss_t rfl rfl (by omega) rfl ?_
      | refine G_lss_f rfl rfl (by omega) rfl ?_
      | refine G_lss rfl rfl rfl ?_
      | refine G_add rfl rfl rfl (by first | exact IntWalk.i64_in _ (by omega) | rfl) ?_
      | refine G_eql_t rfl rfl (by first | with_reducible rfl | assumption | decide +kernel | omega) rfl ?_
      | refine G_eql_f rfl rfl (by first | decide +kernel | omega | assumption) rfl ?_
      | refine G_eql rfl rfl rfl ?_
      | refine G_neq_f rfl rfl (by first | with_reducible rfl | assumption | decide +kernel | omega) rfl ?_
      | refine G_neq_t rfl rfl (by first | decide +kernel | omega | assumption) rfl ?_
      | refine G_neq rfl rfl rfl ?_
      | refine G_leq_t rfl rfl (by omega) rfl ?_
      | refine G_leq_f rfl rfl (by omega) rfl ?_
      | refine G_leq rfl rfl rfl ?_
      | refine G_gtr_t rfl rfl (by omega) rfl ?_
      | refine G_gtr_f rfl rfl (by omega) rfl ?_
      | refine G_gtr rfl rfl rfl ?_
      | refine G_geq_t rfl rfl (by omega) rfl ?_
      | refine G_geq_f rfl rfl (by omega) rfl ?_
      | refine G_geq rfl rfl rfl ?_
      | refine G_sub rfl rfl rfl (by first | exact IntWalk.i64_in _ (by omega) | rfl) ?_
      | refine G_mul rfl rfl rfl (by first | exact IntWalk.i64_in _ (by omega) | rfl) ?_
      | refine G_xor64 rfl rfl rfl ?_
      | refine G_mul64 rfl rfl rfl ?_
      | refine G_or64 rfl rfl rfl ?_
      | refine G_and64 rfl rfl rfl ?_
      | refine G_add64 rfl rfl rfl ?_
      | refine G_sub64 rfl rfl rfl ?_
      | refine G_shr64 rfl rfl rfl rfl ?_
      | refine G_shl64 rfl rfl rfl rfl ?_
      | refine G_add8 rfl rfl rfl ?_
      | refine G_sub8 rfl rfl rfl ?_
      | refine G_xor8 rfl rfl rfl ?_
      | refine G_or8 rfl rfl rfl ?_
      | refine G_and8 rfl rfl rfl ?_
      | refine G_shr8 rfl rfl rfl rfl ?_
      | refine G_shl8 rfl rfl rfl rfl ?_
      | refine G_eqlB rfl rfl rfl ?_
      | refine G_neqB rfl rfl rfl ?_)
    | (refine Is_load ?_; first
      | refine G_load rfl rfl rfl ?_
      | refine G_load_cell rfl (by first | assumption | (apply_assumption; done) | fail) rfl ?_)
    | (refine Is_store ?_; refine G_store rfl rfl rfl rfl rfl ?_)
    | (refine Is_builtin ?_; first
      | refine G_len rfl rfl ?_)
    | (refine Is_nilCheck ?_; refine G_nilCheck rfl rfl ?_)
    | (refine Is_convert ?_; first
      | refine G_u64_int rfl rfl ?_
      | refine G_to_u64 rfl rfl ?_
      | refine G_low8 rfl rfl rfl ?_
      | refine G_conv _ rfl rfl (IntWalk.i64_in _ (by omega)) ?_
      | refine G_to_u8 rfl rfl ?_
      | refine G_conv _ rfl rfl rfl ?_)
    | (refine Is_fieldAddr ?_; refine G_fieldOff rfl rfl ?_)
    | (refine Is_indexAddr ?_; first
      | refine G_indexA rfl rfl (by first | decide | omega) rfl ?_
      | refine G_indexP rfl rfl (by first | assumption | omega) rfl ?_)
    | (refine Is_un ?_; refine G_not rfl rfl ?_)
    | (refine Is_makeFunc ?_; refine G_makeFunc rfl rfl rfl ?_)
    | (refine Is_extract ?_; refine G_extract rfl rfl rfl ?_)
    | (refine Is_guard ?_; first
      | refine G_guard_yes (by rw [hops.eq]; rfl) rfl (by simp) ?_
      | refine G_guard_no (by rw [hops.eq]; rfl) rfl rfl rfl ?_)
    | (refine Is_pick ?_; first
      | refine G_pick_t rfl rfl rfl ?_
      | refine G_pick_f rfl rfl rfl ?_)
    | refine GC_cond_t rfl ?_
    | refine GC_cond_f rfl ?_
    | refine GC_seq ?_
    | refine GC_region (fun ops hops => ?_)
    | (refine G_nil ?_; try clear hops; try clear ops)
    | refine At_then ?_
    | refine GC_skip ?_
    | refine GC_block ?_
    | refine GC_exit ?_
    | refine GC_ret ?_
    | refine At_then_exit ?_
    | refine At_then_ret ?_
    | refine At_block ?_
    | refine At_block_ret ?_
    | refine At_block_hit ?_
    | refine At_block_miss rfl ?_
    | refine At_round_exit ?_
    | refine At_round_ret ?_)
    refine G_call rfl (fun w1 _ => ref_Step _ _ w1) rfl ?_
    repeat (first
    | (refine Is_move ?_; refine G_move rfl rfl ?_)
    | (refine Is_assign ?_; refine G_assign rfl rfl ?_)
    | (refine Is_bin ?_; first
      | refine G_lss_t rfl rfl (by omega) rfl ?_
      | refine G_lss_f rfl rfl (by omega) rfl ?_
      | refine G_lss rfl rfl rfl ?_
      | refine G_add rfl rfl rfl (by first | exact IntWalk.i64_in _ (by omega) | rfl) ?_
      | refine G_eql_t rfl rfl (by first | with_reducible rfl | assumption | decide +kernel | omega) rfl ?_
      | refine G_eql_f rfl rfl (by first | decide +kernel | omega | assumption) rfl ?_
      | refine G_eql rfl rfl rfl ?_
      | refine G_neq_f rfl rfl (by first | with_reducible rfl | assumption | decide +kernel | omega) rfl ?_
      | refine G_neq_t rfl rfl (by first | decide +kernel | omega | assumption) rfl ?_
      | refine G_neq rfl rfl rfl ?_
      | refine G_leq_t rfl rfl (by omega) rfl ?_
      | refine G_leq_f rfl rfl (by omega) rfl ?_
      | refine G_leq rfl rfl rfl ?_
      | refine G_gtr_t rfl rfl (by omega) rfl ?_
      | refine G_gtr_f rfl rfl (by omega) rfl ?_
      | refine G_gtr rfl rfl rfl ?_
      | refine G_geq_t rfl rfl (by omega) rfl ?_
      | refine G_geq_f rfl rfl (by omega) rfl ?_
      | refine G_geq rfl rfl rfl ?_
      | refine G_sub rfl rfl rfl (by first | exact IntWalk.i64_in _ (by omega) | rfl) ?_
      | refine G_mul rfl rfl rfl (by first | exact IntWalk.i64_in _ (by omega) | rfl) ?_
      | refine G_xor64 rfl rfl rfl ?_
      | refine G_mul64 rfl rfl rfl ?_
      | refine G_or64 rfl rfl rfl ?_
      | refine G_and64 rfl rfl rfl ?_
      | refine G_add64 rfl rfl rfl ?_
      | refine G_sub64 rfl rfl rfl ?_
      | refine G_shr64 rfl rfl rfl rfl ?_
      | refine G_shl64 rfl rfl rfl rfl ?_
      | refine G_add8 rfl rfl rfl ?_
      | refine G_sub8 rfl rfl rfl ?_
      | refine G_xor8 rfl rfl rfl ?_
      | refine G_or8 rfl rfl rfl ?_
      | refine G_and8 rfl rfl rfl ?_
      | refine G_shr8 rfl rfl rfl rfl ?_
      | refine G_shl8 rfl rfl rfl rfl ?_
      | refine G_eqlB rfl rfl rfl ?_
      | refine G_neqB rfl rfl rfl ?_)
    | (refine Is_load ?_; first
      | refine G_load rfl rfl rfl ?_
      | refine G_load_cell rfl (by first | assumption | (apply_assumption; done) | fail) rfl ?_)
    | (refine Is_store ?_; refine G_store rfl rfl rfl rfl rfl ?_)
    | (refine Is_builtin ?_; first
      | refine G_len rfl rfl ?_)
    | (refine Is_nilCheck ?_; refine G_nilCheck rfl rfl ?_)
    | (refine Is_convert ?_; first
      | refine G_u64_int rfl rfl ?_
      | refine G_to_u64 rfl rfl ?_
      | refine G_low8 rfl rfl rfl ?_
      | refine G_conv _ rfl rfl (IntWalk.i64_in _ (by omega)) ?_
      | refine G_to_u8 rfl rfl ?_
      | refine G_conv _ rfl rfl rfl ?_)
    | (refine Is_fieldAddr ?_; refine G_fieldOff rfl rfl ?_)
    | (refine Is_indexAddr ?_; first
      | refine G_indexA rfl rfl (by first | decide | omega) rfl ?_
      | refine G_indexP rfl rfl (by first | assumption | omega) rfl ?_)
    | (refine Is_un ?_; refine G_not rfl rfl ?_)
    | (refine Is_makeFunc ?_; refine G_makeFunc rfl rfl rfl ?_)
    | (refine Is_extract ?_; refine G_extract rfl rfl rfl ?_)
    | (refine Is_guard ?_; first
      | refine G_guard_yes (by rw [hops.eq]; rfl) rfl (by simp) ?_
      | refine G_guard_no (by rw [hops.eq]; rfl) rfl rfl rfl ?_)
    | (refine Is_pick ?_; first
      | refine G_pick_t rfl rfl rfl ?_
      | refine G_pick_f rfl rfl rfl ?_)
    | refine GC_cond_t rfl ?_
    | refine GC_cond_f rfl ?_
    | refine GC_seq ?_
    | refine GC_region (fun ops hops => ?_)
    | (refine G_nil ?_; try clear hops; try clear ops)
    | refine At_then ?_
    | refine GC_skip ?_
    | refine GC_block ?_
    | refine GC_exit ?_
    | refine GC_ret ?_
    | refine At_then_exit ?_
    | refine At_then_ret ?_
    | refine At_block ?_
    | refine At_block_ret ?_
    | refine At_block_hit ?_
    | refine At_block_miss rfl ?_
    | refine At_round_exit ?_
    | refine At_round_ret ?_)
    refine ret_one rfl rfl fun w' h' => ⟨?_, h'⟩
    rw [List.take_length]
end Go.Proofs.Ytdngfkmigpnbnaa
