/- The walk of DigestPads. -/
import Derived.Test.YtcmjfmofaligfaaDigG
import Derived.Test.YtcmjfmofaligfaaPureInv
set_option linter.unusedVariables false
set_option linter.unusedSimpArgs false
set_option maxRecDepth 100000
namespace Go.Proofs.Ytcmjfmofaligfaa
open Go.RowKit
attribute [local irreducible] G GC At wpL DR XPost CPost

theorem pad_at (bs : List (BitVec 8)) (n j : Nat) : (bs ++ List.replicate n 0#8)[j]?.getD 0#8 = bs[j]?.getD 0#8 := by
  rw [List.getElem?_append]
  split
  · rfl
  · rw [List.getElem?_replicate, List.getElem?_eq_none (l := bs) (by omega)]
    split <;> rfl

theorem wd_congr (bs cs : List (BitVec 8)) (h : ∀ j : Nat, bs[j]?.getD 0#8 = cs[j]?.getD 0#8) : ∀ i, wd bs i = wd cs i
  | 0 => rfl
  | i + 1 => by rw [wd, wd, wd_congr bs cs h i, h i]

theorem wd_past (bs : List (BitVec 8)) (k : Nat) (h : bs.length ≤ k) : ∀ r, wd bs (k + r) = wd bs k
  | 0 => rfl
  | r + 1 => by
    rw [← Nat.add_assoc, wd, wd_past bs k h r, List.getElem?_eq_none (by omega)]
    simp

theorem words_pad (bs : List (BitVec 8)) (n : Nat) (h : (bs.length + n + 7) / 8 = (bs.length + 7) / 8) : words (bs ++ List.replicate n 0#8) = words bs := by
  unfold words
  rw [List.length_append, List.length_replicate, h]
  apply List.map_congr_left
  intro g hg
  rw [List.mem_range] at hg
  have h1 : ∀ i, wd ((bs ++ List.replicate n 0#8).drop (8 * g)) i = wd (bs.drop (8 * g)) i := wd_congr _ _ fun j => by
    rw [List.getElem?_drop, List.getElem?_drop, pad_at]
  rw [h1]
  by_cases h2 : 8 ≤ bs.length - 8 * g
  · rw [Nat.min_eq_left h2, Nat.min_eq_left (by omega)]
  · have h3 : min 8 (bs.length - 8 * g) = bs.length - 8 * g := Nat.min_eq_right (by omega)
    obtain ⟨r, hr⟩ : ∃ r, min 8 (bs.length + n - 8 * g) = (bs.length - 8 * g) + r := ⟨min 8 (bs.length + n - 8 * g) - (bs.length - 8 * g), by omega⟩
    rw [h3, hr]
    exact wd_past _ _ (by simp) r

def digBy (bs : List (BitVec 8)) : BitVec 64 := stepB (foldB 0x6279746573#64 (words bs)) (BitVec.ofNat 64 bs.length)

theorem digBy_pad (bs : List (BitVec 8)) (n : Nat) (h : (bs.length + n + 7) / 8 = (bs.length + 7) / 8) (hl : bs.length ≤ 200) (hn : n ≤ 8) : digBy (bs ++ List.replicate n 0#8) = digBy bs ↔ n = 0 := by
  unfold digBy
  rw [words_pad bs n h, step_inj_r, List.length_append, List.length_replicate]
  constructor
  · intro e
    have := congrArg BitVec.toNat e
    simp only [BitVec.toNat_ofNat] at this
    omega
  · rintro rfl; rfl

theorem walk_DigestPads (w : World) (v : Value) (bs : List (BitVec 8)) (hv : Rd w v 1 (bs.map B8)) (k : BitVec 8) :
    Calls Try.prog 6 #[v, B8 k] w (Is w (.bool true)) := by
  have hO := RdO.old hv
  have hk := k.isLt
  have hv2 := hv
  obtain ⟨A, q, c, rfl, q1, q2, q3, q4⟩ := hv
  obtain rfl : bs.length = q := by simpa using q1
  unfold maxLen at q3
  refine enter (N := 51) (args := [.slice A bs.length c, B8 k]) Try.func6 rfl rfl rfl (St.refl w) ?_
  repeat (first
    | (refine Is_move ?_; refine G_move rfl rfl ?_)
    | (refine Is_assign ?_; refine G_assign rfl rfl ?_)
    | (refine Is_bin ?_; first
      | refine G_lss_t rfl rfl (by omega) rfl ?_
      | refine G_lss_f rfl rfl (by omega) rfl ?_
      | refine G_lss rfl rfl rfl ?_
      | refine G_add rfl rfl rfl (by first | exact IntWalk.i64_in _ (by omega) | rfl) ?_
      | refine G_eql_t rfl rfl (by first | with_reducible rfl | assumption | decide +kernel | omega) rfl ?_
      | refine G_eql_f rfl rfl (by first | decide +kernel | omega | assumption) rfl ?_
      | refine G_eql rfl rfl rfl ?_
      | refine G_neq_f rfl rfl (by first | with_reducible rfl | assumption | decide +kernel | omega) rfl ?_
      | refine G_neq_t rfl rfl (by first | decide +kernel | omega | assumption) rfl ?_
      | refine G_neq rfl rfl rfl ?_
      | refine G_leq_t rfl rfl (by omega) rfl ?_
      | refine G_leq_f rfl rfl (by omega) rfl ?_
      | refine G_leq rfl rfl rfl ?_
      | refine G_gtr_t rfl rfl (by omega) rfl ?_
      | refine G_gtr_f rfl rfl (by omega) rfl ?_
      | refine G_gtr rfl rfl rfl ?_
      | refine G_geq_t rfl rfl (by omega) rfl ?_
      | refine G_geq_f rfl rfl (by omega) rfl ?_
      | refine G_geq rfl rfl rfl ?_
      | refine G_sub rfl rfl rfl (by first | exact IntWalk.i64_in _ (by omega) | rfl) ?_
      | refine G_mul rfl rfl rfl (by first | exact IntWalk.i64_in _ (by omega) | rfl) ?_
      | refine G_xor64 rfl rfl rfl ?_
      | refine G_mul64 rfl rfl rfl ?_
      | refine G_or64 rfl rfl rfl ?_
      | refine G_and64 rfl rfl rfl ?_
      | refine G_add64 rfl rfl rfl ?_
      | refine G_sub64 rfl rfl rfl ?_
      | refine G_shr64 rfl rfl rfl rfl ?_
      | refine G_shl64 rfl rfl rfl rfl ?_
      | refine G_eqlB rfl rfl rfl ?_
      | refine G_neqB rfl rfl rfl ?_)
    | (refine Is_load ?_; first
      | refine G_load rfl rfl rfl ?_
      | refine G_load_cell rfl (by first | assumption | apply_assumption) rfl ?_)
    | (refine Is_store ?_; refine G_store rfl rfl rfl rfl rfl ?_)
    | (refine Is_builtin ?_; first
      | refine G_len rfl rfl ?_)
    | (refine Is_nilCheck ?_; refine G_nilCheck rfl rfl ?_)
    | (refine Is_convert ?_; first
      | refine G_u64_int rfl rfl ?_
      | refine G_to_u64 rfl rfl ?_
      | refine G_conv _ rfl rfl (by first | exact IntWalk.i64_in _ (by omega) | rfl) ?_)
    | (refine Is_fieldAddr ?_; refine G_fieldOff rfl rfl ?_)
    | (refine Is_indexAddr ?_; refine G_indexA rfl rfl (by first | decide | omega) rfl ?_)
    | (refine Is_un ?_; refine G_not rfl rfl ?_)
    | (refine Is_makeFunc ?_; refine G_makeFunc rfl rfl rfl ?_)
    | (refine Is_extract ?_; refine G_extract rfl rfl rfl ?_)
    | (refine Is_guard ?_; first
      | refine G_guard_yes (by rw [hops.eq]; rfl) rfl (by simp) ?_
      | refine G_guard_no (by rw [hops.eq]; rfl) rfl rfl rfl ?_)
    | (refine Is_pick ?_; first
      | refine G_pick_t rfl rfl rfl ?_
      | refine G_pick_f rfl rfl rfl ?_)
    | refine GC_cond_t rfl ?_
    | refine GC_cond_f rfl ?_
    | refine GC_seq ?_
    | refine GC_region (fun ops hops => ?_)
    | (refine G_nil ?_; try clear hops; try clear ops)
    | refine At_then ?_
    | refine GC_skip ?_
    | refine GC_block ?_
    | refine GC_exit ?_
    | refine GC_ret ?_
    | refine At_then_exit ?_
    | refine At_then_ret ?_
    | refine At_block ?_
    | refine At_block_ret ?_
    | refine At_block_hit ?_
    | refine At_block_miss rfl ?_
    | refine At_round_exit ?_
    | refine At_round_ret ?_)
  refine G_call rfl (fun w1 _ => law_examples w1) rfl ?_
  repeat (first
    | (refine Is_move ?_; refine G_move rfl rfl ?_)
    | (refine Is_assign ?_; refine G_assign rfl rfl ?_)
    | (refine Is_bin ?_; first
      | refine G_lss_t rfl rfl (by omega) rfl ?_
      | refine G_lss_f rfl rfl (by omega) rfl ?_
      | refine G_lss rfl rfl rfl ?_
      | refine G_add rfl rfl rfl (by first | exact IntWalk.i64_in _ (by omega) | rfl) ?_
      | refine G_eql_t rfl rfl (by first | with_reducible rfl | assumption | decide +kernel | omega) rfl ?_
      | refine G_eql_f rfl rfl (by first | decide +kernel | omega | assumption) rfl ?_
      | refine G_eql rfl rfl rfl ?_
      | refine G_neq_f rfl rfl (by first | with_reducible rfl | assumption | decide +kernel | omega) rfl ?_
      | refine G_neq_t rfl rfl (by first | decide +kernel | omega | assumption) rfl ?_
      | refine G_neq rfl rfl rfl ?_
      | refine G_leq_t rfl rfl (by omega) rfl ?_
      | refine G_leq_f rfl rfl (by omega) rfl ?_
      | refine G_leq rfl rfl rfl ?_
      | refine G_gtr_t rfl rfl (by omega) rfl ?_
      | refine G_gtr_f rfl rfl (by omega) rfl ?_
      | refine G_gtr rfl rfl rfl ?_
      | refine G_geq_t rfl rfl (by omega) rfl ?_
      | refine G_geq_f rfl rfl (by omega) rfl ?_
      | refine G_geq rfl rfl rfl ?_
      | refine G_sub rfl rfl rfl (by first | exact IntWalk.i64_in _ (by omega) | rfl) ?_
      | refine G_mul rfl rfl rfl (by first | exact IntWalk.i64_in _ (by omega) | rfl) ?_
      | refine G_xor64 rfl rfl rfl ?_
      | refine G_mul64 rfl rfl rfl ?_
      | refine G_or64 rfl rfl rfl ?_
      | refine G_and64 rfl rfl rfl ?_
      | refine G_add64 rfl rfl rfl ?_
      | refine G_sub64 rfl rfl rfl ?_
      | refine G_shr64 rfl rfl rfl rfl ?_
      | refine G_shl64 rfl rfl rfl rfl ?_
      | refine G_eqlB rfl rfl rfl ?_
      | refine G_neqB rfl rfl rfl ?_)
    | (refine Is_load ?_; first
      | refine G_load rfl rfl rfl ?_
      | refine G_load_cell rfl (by first | assumption | apply_assumption) rfl ?_)
    | (refine Is_store ?_; refine G_store rfl rfl rfl rfl rfl ?_)
    | (refine Is_builtin ?_; first
      | refine G_len rfl rfl ?_)
    | (refine Is_nilCheck ?_; refine G_nilCheck rfl rfl ?_)
    | (refine Is_convert ?_; first
      | refine G_u64_int rfl rfl ?_
      | refine G_to_u64 rfl rfl ?_
      | refine G_conv _ rfl rfl (by first | exact IntWalk.i64_in _ (by omega) | rfl) ?_)
    | (refine Is_fieldAddr ?_; refine G_fieldOff rfl rfl ?_)
    | (refine Is_indexAddr ?_; refine G_indexA rfl rfl (by first | decide | omega) rfl ?_)
    | (refine Is_un ?_; refine G_not rfl rfl ?_)
    | (refine Is_makeFunc ?_; refine G_makeFunc rfl rfl rfl ?_)
    | (refine Is_extract ?_; refine G_extract rfl rfl rfl ?_)
    | (refine Is_guard ?_; first
      | refine G_guard_yes (by rw [hops.eq]; rfl) rfl (by simp) ?_
      | refine G_guard_no (by rw [hops.eq]; rfl) rfl rfl rfl ?_)
    | (refine Is_pick ?_; first
      | refine G_pick_t rfl rfl rfl ?_
      | refine G_pick_f rfl rfl rfl ?_)
    | refine GC_cond_t rfl ?_
    | refine GC_cond_f rfl ?_
    | refine GC_seq ?_
    | refine GC_region (fun ops hops => ?_)
    | (refine G_nil ?_; try clear hops; try clear ops)
    | refine At_then ?_
    | refine GC_skip ?_
    | refine GC_block ?_
    | refine GC_exit ?_
    | refine GC_ret ?_
    | refine At_then_exit ?_
    | refine At_then_ret ?_
    | refine At_block ?_
    | refine At_block_ret ?_
    | refine At_block_hit ?_
    | refine At_block_miss rfl ?_
    | refine At_round_exit ?_
    | refine At_round_ret ?_)
  refine GC_cond_dec rfl (fun h => ?_) (fun h => ?_)
  · repeat (first
    | (refine Is_move ?_; refine G_move rfl rfl ?_)
    | (refine Is_assign ?_; refine G_assign rfl rfl ?_)
    | (refine Is_bin ?_; first
      | refine G_lss_t rfl rfl (by omega) rfl ?_
      | refine G_lss_f rfl rfl (by omega) rfl ?_
      | refine G_lss rfl rfl rfl ?_
      | refine G_add rfl rfl rfl (by first | exact IntWalk.i64_in _ (by omega) | rfl) ?_
      | refine G_eql_t rfl rfl (by first | with_reducible rfl | assumption | decide +kernel | omega) rfl ?_
      | refine G_eql_f rfl rfl (by first | decide +kernel | omega | assumption) rfl ?_
      | refine G_eql rfl rfl rfl ?_
      | refine G_neq_f rfl rfl (by first | with_reducible rfl | assumption | decide +kernel | omega) rfl ?_
      | refine G_neq_t rfl rfl (by first | decide +kernel | omega | assumption) rfl ?_
      | refine G_neq rfl rfl rfl ?_
      | refine G_leq_t rfl rfl (by omega) rfl ?_
      | refine G_leq_f rfl rfl (by omega) rfl ?_
      | refine G_leq rfl rfl rfl ?_
      | refine G_gtr_t rfl rfl (by omega) rfl ?_
      | refine G_gtr_f rfl rfl (by omega) rfl ?_
      | refine G_gtr rfl rfl rfl ?_
      | refine G_geq_t rfl rfl (by omega) rfl ?_
      | refine G_geq_f rfl rfl (by omega) rfl ?_
      | refine G_geq rfl rfl rfl ?_
      | refine G_sub rfl rfl rfl (by first | exact IntWalk.i64_in _ (by omega) | rfl) ?_
      | refine G_mul rfl rfl rfl (by first | exact IntWalk.i64_in _ (by omega) | rfl) ?_
      | refine G_xor64 rfl rfl rfl ?_
      | refine G_mul64 rfl rfl rfl ?_
      | refine G_or64 rfl rfl rfl ?_
      | refine G_and64 rfl rfl rfl ?_
      | refine G_add64 rfl rfl rfl ?_
      | refine G_sub64 rfl rfl rfl ?_
      | refine G_shr64 rfl rfl rfl rfl ?_
      | refine G_shl64 rfl rfl rfl rfl ?_
      | refine G_eqlB rfl rfl rfl ?_
      | refine G_neqB rfl rfl rfl ?_)
    | (refine Is_load ?_; first
      | refine G_load rfl rfl rfl ?_
      | refine G_load_cell rfl (by first | assumption | apply_assumption) rfl ?_)
    | (refine Is_store ?_; refine G_store rfl rfl rfl rfl rfl ?_)
    | (refine Is_builtin ?_; first
      | refine G_len rfl rfl ?_)
    | (refine Is_nilCheck ?_; refine G_nilCheck rfl rfl ?_)
    | (refine Is_convert ?_; first
      | refine G_u64_int rfl rfl ?_
      | refine G_to_u64 rfl rfl ?_
      | refine G_conv _ rfl rfl (by first | exact IntWalk.i64_in _ (by omega) | rfl) ?_)
    | (refine Is_fieldAddr ?_; refine G_fieldOff rfl rfl ?_)
    | (refine Is_indexAddr ?_; refine G_indexA rfl rfl (by first | decide | omega) rfl ?_)
    | (refine Is_un ?_; refine G_not rfl rfl ?_)
    | (refine Is_makeFunc ?_; refine G_makeFunc rfl rfl rfl ?_)
    | (refine Is_extract ?_; refine G_extract rfl rfl rfl ?_)
    | (refine Is_guard ?_; first
      | refine G_guard_yes (by rw [hops.eq]; rfl) rfl (by simp) ?_
      | refine G_guard_no (by rw [hops.eq]; rfl) rfl rfl rfl ?_)
    | (refine Is_pick ?_; first
      | refine G_pick_t rfl rfl rfl ?_
      | refine G_pick_f rfl rfl rfl ?_)
    | refine GC_cond_t rfl ?_
    | refine GC_cond_f rfl ?_
    | refine GC_seq ?_
    | refine GC_region (fun ops hops => ?_)
    | (refine G_nil ?_; try clear hops; try clear ops)
    | refine At_then ?_
    | refine GC_skip ?_
    | refine GC_block ?_
    | refine GC_exit ?_
    | refine GC_ret ?_
    | refine At_then_exit ?_
    | refine At_then_ret ?_
    | refine At_block ?_
    | refine At_block_ret ?_
    | refine At_block_hit ?_
    | refine At_block_miss rfl ?_
    | refine At_round_exit ?_
    | refine At_round_ret ?_)
    exact ret_one rfl rfl fun w' h' => ⟨rfl, h'⟩
  · obtain ⟨room, hroom⟩ : ∃ r : Nat, r = (8 - bs.length % 8) % 8 := ⟨_, rfl⟩
    obtain ⟨n, hn⟩ : ∃ n : Nat, n = k.toNat % (room + 1) := ⟨_, rfl⟩
    have hn8 : n ≤ room := by have := Nat.mod_lt k.toNat (show 0 < room + 1 by omega); omega
    repeat (first
    | (refine Is_move ?_; refine G_move rfl rfl ?_)
    | (refine Is_assign ?_; refine G_assign rfl rfl ?_)
    | (refine Is_bin ?_; first
      | refine G_lss_t rfl rfl (by omega) rfl ?_
      | refine G_lss_f rfl rfl (by omega) rfl ?_
      | refine G_lss rfl rfl rfl ?_
      | refine G_add rfl rfl rfl (by first | exact IntWalk.i64_in _ (by omega) | rfl) ?_
      | refine G_eql_t rfl rfl (by first | with_reducible rfl | assumption | decide +kernel | omega) rfl ?_
      | refine G_eql_f rfl rfl (by first | decide +kernel | omega | assumption) rfl ?_
      | refine G_eql rfl rfl rfl ?_
      | refine G_neq_f rfl rfl (by first | with_reducible rfl | assumption | decide +kernel | omega) rfl ?_
      | refine G_neq_t rfl rfl (by first | decide +kernel | omega | assumption) rfl ?_
      | refine G_neq rfl rfl rfl ?_
      | refine G_leq_t rfl rfl (by omega) rfl ?_
      | refine G_leq_f rfl rfl (by omega) rfl ?_
      | refine G_leq rfl rfl rfl ?_
      | refine G_gtr_t rfl rfl (by omega) rfl ?_
      | refine G_gtr_f rfl rfl (by omega) rfl ?_
      | refine G_gtr rfl rfl rfl ?_
      | refine G_geq_t rfl rfl (by omega) rfl ?_
      | refine G_geq_f rfl rfl (by omega) rfl ?_
      | refine G_geq rfl rfl rfl ?_
      | refine G_sub rfl rfl rfl (by first | exact IntWalk.i64_in _ (by omega) | rfl) ?_
      | refine G_mul rfl rfl rfl (by first | exact IntWalk.i64_in _ (by omega) | rfl) ?_
      | refine G_xor64 rfl rfl rfl ?_
      | refine G_mul64 rfl rfl rfl ?_
      | refine G_or64 rfl rfl rfl ?_
      | refine G_and64 rfl rfl rfl ?_
      | refine G_add64 rfl rfl rfl ?_
      | refine G_sub64 rfl rfl rfl ?_
      | refine G_shr64 rfl rfl rfl rfl ?_
      | refine G_shl64 rfl rfl rfl rfl ?_
      | refine G_eqlB rfl rfl rfl ?_
      | refine G_neqB rfl rfl rfl ?_)
    | (refine Is_load ?_; first
      | refine G_load rfl rfl rfl ?_
      | refine G_load_cell rfl (by first | assumption | apply_assumption) rfl ?_)
    | (refine Is_store ?_; refine G_store rfl rfl rfl rfl rfl ?_)
    | (refine Is_builtin ?_; first
      | refine G_len rfl rfl ?_)
    | (refine Is_nilCheck ?_; refine G_nilCheck rfl rfl ?_)
    | (refine Is_convert ?_; first
      | refine G_u64_int rfl rfl ?_
      | refine G_to_u64 rfl rfl ?_
      | refine G_conv _ rfl rfl (by first | exact IntWalk.i64_in _ (by omega) | rfl) ?_)
    | (refine Is_fieldAddr ?_; refine G_fieldOff rfl rfl ?_)
    | (refine Is_indexAddr ?_; refine G_indexA rfl rfl (by first | decide | omega) rfl ?_)
    | (refine Is_un ?_; refine G_not rfl rfl ?_)
    | (refine Is_makeFunc ?_; refine G_makeFunc rfl rfl rfl ?_)
    | (refine Is_extract ?_; refine G_extract rfl rfl rfl ?_)
    | (refine Is_guard ?_; first
      | refine G_guard_yes (by rw [hops.eq]; rfl) rfl (by simp) ?_
      | refine G_guard_no (by rw [hops.eq]; rfl) rfl rfl rfl ?_)
    | (refine Is_pick ?_; first
      | refine G_pick_t rfl rfl rfl ?_
      | refine G_pick_f rfl rfl rfl ?_)
    | refine GC_cond_t rfl ?_
    | refine GC_cond_f rfl ?_
    | refine GC_seq ?_
    | refine GC_region (fun ops hops => ?_)
    | (refine G_nil ?_; try clear hops; try clear ops)
    | refine At_then ?_
    | refine GC_skip ?_
    | refine GC_block ?_
    | refine GC_exit ?_
    | refine GC_ret ?_
    | refine At_then_exit ?_
    | refine At_then_ret ?_
    | refine At_block ?_
    | refine At_block_ret ?_
    | refine At_block_hit ?_
    | refine At_block_miss rfl ?_
    | refine At_round_exit ?_
    | refine At_round_ret ?_)
    refine G_rem rfl rfl (by omega) rfl (r := ((bs.length % 8 : Nat) : Int)) (by rw [Int.tmod_eq_emod_of_nonneg (by omega)]; omega) ?_
    repeat (first
    | (refine Is_move ?_; refine G_move rfl rfl ?_)
    | (refine Is_assign ?_; refine G_assign rfl rfl ?_)
    | (refine Is_bin ?_; first
      | refine G_lss_t rfl rfl (by omega) rfl ?_
      | refine G_lss_f rfl rfl (by omega) rfl ?_
      | refine G_lss rfl rfl rfl ?_
      | refine G_add rfl rfl rfl (by first | exact IntWalk.i64_in _ (by omega) | rfl) ?_
      | refine G_eql_t rfl rfl (by first | with_reducible rfl | assumption | decide +kernel | omega) rfl ?_
      | refine G_eql_f rfl rfl (by first | decide +kernel | omega | assumption) rfl ?_
      | refine G_eql rfl rfl rfl ?_
      | refine G_neq_f rfl rfl (by first | with_reducible rfl | assumption | decide +kernel | omega) rfl ?_
      | refine G_neq_t rfl rfl (by first | decide +kernel | omega | assumption) rfl ?_
      | refine G_neq rfl rfl rfl ?_
      | refine G_leq_t rfl rfl (by omega) rfl ?_
      | refine G_leq_f rfl rfl (by omega) rfl ?_
      | refine G_leq rfl rfl rfl ?_
      | refine G_gtr_t rfl rfl (by omega) rfl ?_
      | refine G_gtr_f rfl rfl (by omega) rfl ?_
      | refine G_gtr rfl rfl rfl ?_
      | refine G_geq_t rfl rfl (by omega) rfl ?_
      | refine G_geq_f rfl rfl (by omega) rfl ?_
      | refine G_geq rfl rfl rfl ?_
      | refine G_sub rfl rfl rfl (by first | exact IntWalk.i64_in _ (by omega) | rfl) ?_
      | refine G_mul rfl rfl rfl (by first | exact IntWalk.i64_in _ (by omega) | rfl) ?_
      | refine G_xor64 rfl rfl rfl ?_
      | refine G_mul64 rfl rfl rfl ?_
      | refine G_or64 rfl rfl rfl ?_
      | refine G_and64 rfl rfl rfl ?_
      | refine G_add64 rfl rfl rfl ?_
      | refine G_sub64 rfl rfl rfl ?_
      | refine G_shr64 rfl rfl rfl rfl ?_
      | refine G_shl64 rfl rfl rfl rfl ?_
      | refine G_eqlB rfl rfl rfl ?_
      | refine G_neqB rfl rfl rfl ?_)
    | (refine Is_load ?_; first
      | refine G_load rfl rfl rfl ?_
      | refine G_load_cell rfl (by first | assumption | apply_assumption) rfl ?_)
    | (refine Is_store ?_; refine G_store rfl rfl rfl rfl rfl ?_)
    | (refine Is_builtin ?_; first
      | refine G_len rfl rfl ?_)
    | (refine Is_nilCheck ?_; refine G_nilCheck rfl rfl ?_)
    | (refine Is_convert ?_; first
      | refine G_u64_int rfl rfl ?_
      | refine G_to_u64 rfl rfl ?_
      | refine G_conv _ rfl rfl (by first | exact IntWalk.i64_in _ (by omega) | rfl) ?_)
    | (refine Is_fieldAddr ?_; refine G_fieldOff rfl rfl ?_)
    | (refine Is_indexAddr ?_; refine G_indexA rfl rfl (by first | decide | omega) rfl ?_)
    | (refine Is_un ?_; refine G_not rfl rfl ?_)
    | (refine Is_makeFunc ?_; refine G_makeFunc rfl rfl rfl ?_)
    | (refine Is_extract ?_; refine G_extract rfl rfl rfl ?_)
    | (refine Is_guard ?_; first
      | refine G_guard_yes (by rw [hops.eq]; rfl) rfl (by simp) ?_
      | refine G_guard_no (by rw [hops.eq]; rfl) rfl rfl rfl ?_)
    | (refine Is_pick ?_; first
      | refine G_pick_t rfl rfl rfl ?_
      | refine G_pick_f rfl rfl rfl ?_)
    | refine GC_cond_t rfl ?_
    | refine GC_cond_f rfl ?_
    | refine GC_seq ?_
    | refine GC_region (fun ops hops => ?_)
    | (refine G_nil ?_; try clear hops; try clear ops)
    | refine At_then ?_
    | refine GC_skip ?_
    | refine GC_block ?_
    | refine GC_exit ?_
    | refine GC_ret ?_
    | refine At_then_exit ?_
    | refine At_then_ret ?_
    | refine At_block ?_
    | refine At_block_ret ?_
    | refine At_block_hit ?_
    | refine At_block_miss rfl ?_
    | refine At_round_exit ?_
    | refine At_round_ret ?_)
    refine G_rem rfl rfl (by omega) rfl (r := (room : Int)) (by rw [Int.tmod_eq_emod_of_nonneg (by omega)]; omega) ?_
    repeat (first
    | (refine Is_move ?_; refine G_move rfl rfl ?_)
    | (refine Is_assign ?_; refine G_assign rfl rfl ?_)
    | (refine Is_bin ?_; first
      | refine G_lss_t rfl rfl (by omega) rfl ?_
      | refine G_lss_f rfl rfl (by omega) rfl ?_
      | refine G_lss rfl rfl rfl ?_
      | refine G_add rfl rfl rfl (by first | exact IntWalk.i64_in _ (by omega) | rfl) ?_
      | refine G_eql_t rfl rfl (by first | with_reducible rfl | assumption | decide +kernel | omega) rfl ?_
      | refine G_eql_f rfl rfl (by first | decide +kernel | omega | assumption) rfl ?_
      | refine G_eql rfl rfl rfl ?_
      | refine G_neq_f rfl rfl (by first | with_reducible rfl | assumption | decide +kernel | omega) rfl ?_
      | refine G_neq_t rfl rfl (by first | decide +kernel | omega | assumption) rfl ?_
      | refine G_neq rfl rfl rfl ?_
      | refine G_leq_t rfl rfl (by omega) rfl ?_
      | refine G_leq_f rfl rfl (by omega) rfl ?_
      | refine G_leq rfl rfl rfl ?_
      | refine G_gtr_t rfl rfl (by omega) rfl ?_
      | refine G_gtr_f rfl rfl (by omega) rfl ?_
      | refine G_gtr rfl rfl rfl ?_
      | refine G_geq_t rfl rfl (by omega) rfl ?_
      | refine G_geq_f rfl rfl (by omega) rfl ?_
      | refine G_geq rfl rfl rfl ?_
      | refine G_sub rfl rfl rfl (by first | exact IntWalk.i64_in _ (by omega) | rfl) ?_
      | refine G_mul rfl rfl rfl (by first | exact IntWalk.i64_in _ (by omega) | rfl) ?_
      | refine G_xor64 rfl rfl rfl ?_
      | refine G_mul64 rfl rfl rfl ?_
      | refine G_or64 rfl rfl rfl ?_
      | refine G_and64 rfl rfl rfl ?_
      | refine G_add64 rfl rfl rfl ?_
      | refine G_sub64 rfl rfl rfl ?_
      | refine G_shr64 rfl rfl rfl rfl ?_
      | refine G_shl64 rfl rfl rfl rfl ?_
      | refine G_eqlB rfl rfl rfl ?_
      | refine G_neqB rfl rfl rfl ?_)
    | (refine Is_load ?_; first
      | refine G_load rfl rfl rfl ?_
      | refine G_load_cell rfl (by first | assumption | apply_assumption) rfl ?_)
    | (refine Is_store ?_; refine G_store rfl rfl rfl rfl rfl ?_)
    | (refine Is_builtin ?_; first
      | refine G_len rfl rfl ?_)
    | (refine Is_nilCheck ?_; refine G_nilCheck rfl rfl ?_)
    | (refine Is_convert ?_; first
      | refine G_u64_int rfl rfl ?_
      | refine G_to_u64 rfl rfl ?_
      | refine G_conv _ rfl rfl (by first | exact IntWalk.i64_in _ (by omega) | rfl) ?_)
    | (refine Is_fieldAddr ?_; refine G_fieldOff rfl rfl ?_)
    | (refine Is_indexAddr ?_; refine G_indexA rfl rfl (by first | decide | omega) rfl ?_)
    | (refine Is_un ?_; refine G_not rfl rfl ?_)
    | (refine Is_makeFunc ?_; refine G_makeFunc rfl rfl rfl ?_)
    | (refine Is_extract ?_; refine G_extract rfl rfl rfl ?_)
    | (refine Is_guard ?_; first
      | refine G_guard_yes (by rw [hops.eq]; rfl) rfl (by simp) ?_
      | refine G_guard_no (by rw [hops.eq]; rfl) rfl rfl rfl ?_)
    | (refine Is_pick ?_; first
      | refine G_pick_t rfl rfl rfl ?_
      | refine G_pick_f rfl rfl rfl ?_)
    | refine GC_cond_t rfl ?_
    | refine GC_cond_f rfl ?_
    | refine GC_seq ?_
    | refine GC_region (fun ops hops => ?_)
    | (refine G_nil ?_; try clear hops; try clear ops)
    | refine At_then ?_
    | refine GC_skip ?_
    | refine GC_block ?_
    | refine GC_exit ?_
    | refine GC_ret ?_
    | refine At_then_exit ?_
    | refine At_then_ret ?_
    | refine At_block ?_
    | refine At_block_ret ?_
    | refine At_block_hit ?_
    | refine At_block_miss rfl ?_
    | refine At_round_exit ?_
    | refine At_round_ret ?_)
    refine G_rem rfl rfl (by omega) rfl (r := (n : Int)) (by rw [Int.tmod_eq_emod_of_nonneg (by omega), hn]; simp) ?_
    repeat (first
    | (refine Is_move ?_; refine G_move rfl rfl ?_)
    | (refine Is_assign ?_; refine G_assign rfl rfl ?_)
    | (refine Is_bin ?_; first
      | refine G_lss_t rfl rfl (by omega) rfl ?_
      | refine G_lss_f rfl rfl (by omega) rfl ?_
      | refine G_lss rfl rfl rfl ?_
      | refine G_add rfl rfl rfl (by first | exact IntWalk.i64_in _ (by omega) | rfl) ?_
      | refine G_eql_t rfl rfl (by first | with_reducible rfl | assumption | decide +kernel | omega) rfl ?_
      | refine G_eql_f rfl rfl (by first | decide +kernel | omega | assumption) rfl ?_
      | refine G_eql rfl rfl rfl ?_
      | refine G_neq_f rfl rfl (by first | with_reducible rfl | assumption | decide +kernel | omega) rfl ?_
      | refine G_neq_t rfl rfl (by first | decide +kernel | omega | assumption) rfl ?_
      | refine G_neq rfl rfl rfl ?_
      | refine G_leq_t rfl rfl (by omega) rfl ?_
      | refine G_leq_f rfl rfl (by omega) rfl ?_
      | refine G_leq rfl rfl rfl ?_
      | refine G_gtr_t rfl rfl (by omega) rfl ?_
      | refine G_gtr_f rfl rfl (by omega) rfl ?_
      | refine G_gtr rfl rfl rfl ?_
      | refine G_geq_t rfl rfl (by omega) rfl ?_
      | refine G_geq_f rfl rfl (by omega) rfl ?_
      | refine G_geq rfl rfl rfl ?_
      | refine G_sub rfl rfl rfl (by first | exact IntWalk.i64_in _ (by omega) | rfl) ?_
      | refine G_mul rfl rfl rfl (by first | exact IntWalk.i64_in _ (by omega) | rfl) ?_
      | refine G_xor64 rfl rfl rfl ?_
      | refine G_mul64 rfl rfl rfl ?_
      | refine G_or64 rfl rfl rfl ?_
      | refine G_and64 rfl rfl rfl ?_
      | refine G_add64 rfl rfl rfl ?_
      | refine G_sub64 rfl rfl rfl ?_
      | refine G_shr64 rfl rfl rfl rfl ?_
      | refine G_shl64 rfl rfl rfl rfl ?_
      | refine G_eqlB rfl rfl rfl ?_
      | refine G_neqB rfl rfl rfl ?_)
    | (refine Is_load ?_; first
      | refine G_load rfl rfl rfl ?_
      | refine G_load_cell rfl (by first | assumption | apply_assumption) rfl ?_)
    | (refine Is_store ?_; refine G_store rfl rfl rfl rfl rfl ?_)
    | (refine Is_builtin ?_; first
      | refine G_len rfl rfl ?_)
    | (refine Is_nilCheck ?_; refine G_nilCheck rfl rfl ?_)
    | (refine Is_convert ?_; first
      | refine G_u64_int rfl rfl ?_
      | refine G_to_u64 rfl rfl ?_
      | refine G_conv _ rfl rfl (by first | exact IntWalk.i64_in _ (by omega) | rfl) ?_)
    | (refine Is_fieldAddr ?_; refine G_fieldOff rfl rfl ?_)
    | (refine Is_indexAddr ?_; refine G_indexA rfl rfl (by first | decide | omega) rfl ?_)
    | (refine Is_un ?_; refine G_not rfl rfl ?_)
    | (refine Is_makeFunc ?_; refine G_makeFunc rfl rfl rfl ?_)
    | (refine Is_extract ?_; refine G_extract rfl rfl rfl ?_)
    | (refine Is_guard ?_; first
      | refine G_guard_yes (by rw [hops.eq]; rfl) rfl (by simp) ?_
      | refine G_guard_no (by rw [hops.eq]; rfl) rfl rfl rfl ?_)
    | (refine Is_pick ?_; first
      | refine G_pick_t rfl rfl rfl ?_
      | refine G_pick_f rfl rfl rfl ?_)
    | refine GC_cond_t rfl ?_
    | refine GC_cond_f rfl ?_
    | refine GC_seq ?_
    | refine GC_region (fun ops hops => ?_)
    | (refine G_nil ?_; try clear hops; try clear ops)
    | refine At_then ?_
    | refine GC_skip ?_
    | refine GC_block ?_
    | refine GC_exit ?_
    | refine GC_ret ?_
    | refine At_then_exit ?_
    | refine At_then_ret ?_
    | refine At_block ?_
    | refine At_block_ret ?_
    | refine At_block_hit ?_
    | refine At_block_miss rfl ?_
    | refine At_round_exit ?_
    | refine At_round_ret ?_)
    (refine G_buildSlice   rfl rfl rfl rfl rfl rfl ?_; intro g)
    repeat (first
    | (refine Is_move ?_; refine G_move rfl rfl ?_)
    | (refine Is_assign ?_; refine G_assign rfl rfl ?_)
    | (refine Is_bin ?_; first
      | refine G_lss_t rfl rfl (by omega) rfl ?_
      | refine G_lss_f rfl rfl (by omega) rfl ?_
      | refine G_lss rfl rfl rfl ?_
      | refine G_add rfl rfl rfl (by first | exact IntWalk.i64_in _ (by omega) | rfl) ?_
      | refine G_eql_t rfl rfl (by first | with_reducible rfl | assumption | decide +kernel | omega) rfl ?_
      | refine G_eql_f rfl rfl (by first | decide +kernel | omega | assumption) rfl ?_
      | refine G_eql rfl rfl rfl ?_
      | refine G_neq_f rfl rfl (by first | with_reducible rfl | assumption | decide +kernel | omega) rfl ?_
      | refine G_neq_t rfl rfl (by first | decide +kernel | omega | assumption) rfl ?_
      | refine G_neq rfl rfl rfl ?_
      | refine G_leq_t rfl rfl (by omega) rfl ?_
      | refine G_leq_f rfl rfl (by omega) rfl ?_
      | refine G_leq rfl rfl rfl ?_
      | refine G_gtr_t rfl rfl (by omega) rfl ?_
      | refine G_gtr_f rfl rfl (by omega) rfl ?_
      | refine G_gtr rfl rfl rfl ?_
      | refine G_geq_t rfl rfl (by omega) rfl ?_
      | refine G_geq_f rfl rfl (by omega) rfl ?_
      | refine G_geq rfl rfl rfl ?_
      | refine G_sub rfl rfl rfl (by first | exact IntWalk.i64_in _ (by omega) | rfl) ?_
      | refine G_mul rfl rfl rfl (by first | exact IntWalk.i64_in _ (by omega) | rfl) ?_
      | refine G_xor64 rfl rfl rfl ?_
      | refine G_mul64 rfl rfl rfl ?_
      | refine G_or64 rfl rfl rfl ?_
      | refine G_and64 rfl rfl rfl ?_
      | refine G_add64 rfl rfl rfl ?_
      | refine G_sub64 rfl rfl rfl ?_
      | refine G_shr64 rfl rfl rfl rfl ?_
      | refine G_shl64 rfl rfl rfl rfl ?_
      | refine G_eqlB rfl rfl rfl ?_
      | refine G_neqB rfl rfl rfl ?_)
    | (refine Is_load ?_; first
      | refine G_load rfl rfl rfl ?_
      | refine G_load_cell rfl (by first | assumption | apply_assumption) rfl ?_)
    | (refine Is_store ?_; refine G_store rfl rfl rfl rfl rfl ?_)
    | (refine Is_builtin ?_; first
      | refine G_len rfl rfl ?_)
    | (refine Is_nilCheck ?_; refine G_nilCheck rfl rfl ?_)
    | (refine Is_convert ?_; first
      | refine G_u64_int rfl rfl ?_
      | refine G_to_u64 rfl rfl ?_
      | refine G_conv _ rfl rfl (by first | exact IntWalk.i64_in _ (by omega) | rfl) ?_)
    | (refine Is_fieldAddr ?_; refine G_fieldOff rfl rfl ?_)
    | (refine Is_indexAddr ?_; refine G_indexA rfl rfl (by first | decide | omega) rfl ?_)
    | (refine Is_un ?_; refine G_not rfl rfl ?_)
    | (refine Is_makeFunc ?_; refine G_makeFunc rfl rfl rfl ?_)
    | (refine Is_extract ?_; refine G_extract rfl rfl rfl ?_)
    | (refine Is_guard ?_; first
      | refine G_guard_yes (by rw [hops.eq]; rfl) rfl (by simp) ?_
      | refine G_guard_no (by rw [hops.eq]; rfl) rfl rfl rfl ?_)
    | (refine Is_pick ?_; first
      | refine G_pick_t rfl rfl rfl ?_
      | refine G_pick_f rfl rfl rfl ?_)
    | refine GC_cond_t rfl ?_
    | refine GC_cond_f rfl ?_
    | refine GC_seq ?_
    | refine GC_region (fun ops hops => ?_)
    | (refine G_nil ?_; try clear hops; try clear ops)
    | refine At_then ?_
    | refine GC_skip ?_
    | refine GC_block ?_
    | refine GC_exit ?_
    | refine GC_ret ?_
    | refine At_then_exit ?_
    | refine At_then_ret ?_
    | refine At_block ?_
    | refine At_block_ret ?_
    | refine At_block_hit ?_
    | refine At_block_miss rfl ?_
    | refine At_round_exit ?_
    | refine At_round_ret ?_)
    refine G_own (by repeat (first | exact Take.here | apply Take.there)) (sz := 1) (n := 0) rfl (by simp [maxLen]) ?_
    refine G_append (k := bs.length) (ys := bs.map B8) rfl rfl (by repeat (first | exact Take.here | apply Take.there)) hO.now (by simp) (by simp [Value.oneCell']) (by omega) rfl ?_
    intro v1
    repeat (first
    | (refine Is_move ?_; refine G_move rfl rfl ?_)
    | (refine Is_assign ?_; refine G_assign rfl rfl ?_)
    | (refine Is_bin ?_; first
      | refine G_lss_t rfl rfl (by omega) rfl ?_
      | refine G_lss_f rfl rfl (by omega) rfl ?_
      | refine G_lss rfl rfl rfl ?_
      | refine G_add rfl rfl rfl (by first | exact IntWalk.i64_in _ (by omega) | rfl) ?_
      | refine G_eql_t rfl rfl (by first | with_reducible rfl | assumption | decide +kernel | omega) rfl ?_
      | refine G_eql_f rfl rfl (by first | decide +kernel | omega | assumption) rfl ?_
      | refine G_eql rfl rfl rfl ?_
      | refine G_neq_f rfl rfl (by first | with_reducible rfl | assumption | decide +kernel | omega) rfl ?_
      | refine G_neq_t rfl rfl (by first | decide +kernel | omega | assumption) rfl ?_
      | refine G_neq rfl rfl rfl ?_
      | refine G_leq_t rfl rfl (by omega) rfl ?_
      | refine G_leq_f rfl rfl (by omega) rfl ?_
      | refine G_leq rfl rfl rfl ?_
      | refine G_gtr_t rfl rfl (by omega) rfl ?_
      | refine G_gtr_f rfl rfl (by omega) rfl ?_
      | refine G_gtr rfl rfl rfl ?_
      | refine G_geq_t rfl rfl (by omega) rfl ?_
      | refine G_geq_f rfl rfl (by omega) rfl ?_
      | refine G_geq rfl rfl rfl ?_
      | refine G_sub rfl rfl rfl (by first | exact IntWalk.i64_in _ (by omega) | rfl) ?_
      | refine G_mul rfl rfl rfl (by first | exact IntWalk.i64_in _ (by omega) | rfl) ?_
      | refine G_xor64 rfl rfl rfl ?_
      | refine G_mul64 rfl rfl rfl ?_
      | refine G_or64 rfl rfl rfl ?_
      | refine G_and64 rfl rfl rfl ?_
      | refine G_add64 rfl rfl rfl ?_
      | refine G_sub64 rfl rfl rfl ?_
      | refine G_shr64 rfl rfl rfl rfl ?_
      | refine G_shl64 rfl rfl rfl rfl ?_
      | refine G_eqlB rfl rfl rfl ?_
      | refine G_neqB rfl rfl rfl ?_)
    | (refine Is_load ?_; first
      | refine G_load rfl rfl rfl ?_
      | refine G_load_cell rfl (by first | assumption | apply_assumption) rfl ?_)
    | (refine Is_store ?_; refine G_store rfl rfl rfl rfl rfl ?_)
    | (refine Is_builtin ?_; first
      | refine G_len rfl rfl ?_)
    | (refine Is_nilCheck ?_; refine G_nilCheck rfl rfl ?_)
    | (refine Is_convert ?_; first
      | refine G_u64_int rfl rfl ?_
      | refine G_to_u64 rfl rfl ?_
      | refine G_conv _ rfl rfl (by first | exact IntWalk.i64_in _ (by omega) | rfl) ?_)
    | (refine Is_fieldAddr ?_; refine G_fieldOff rfl rfl ?_)
    | (refine Is_indexAddr ?_; refine G_indexA rfl rfl (by first | decide | omega) rfl ?_)
    | (refine Is_un ?_; refine G_not rfl rfl ?_)
    | (refine Is_makeFunc ?_; refine G_makeFunc rfl rfl rfl ?_)
    | (refine Is_extract ?_; refine G_extract rfl rfl rfl ?_)
    | (refine Is_guard ?_; first
      | refine G_guard_yes (by rw [hops.eq]; rfl) rfl (by simp) ?_
      | refine G_guard_no (by rw [hops.eq]; rfl) rfl rfl rfl ?_)
    | (refine Is_pick ?_; first
      | refine G_pick_t rfl rfl rfl ?_
      | refine G_pick_f rfl rfl rfl ?_)
    | refine GC_cond_t rfl ?_
    | refine GC_cond_f rfl ?_
    | refine GC_seq ?_
    | refine GC_region (fun ops hops => ?_)
    | (refine G_nil ?_; try clear hops; try clear ops)
    | refine At_then ?_
    | refine GC_skip ?_
    | refine GC_block ?_
    | refine GC_exit ?_
    | refine GC_ret ?_
    | refine At_then_exit ?_
    | refine At_then_ret ?_
    | refine At_block ?_
    | refine At_block_ret ?_
    | refine At_block_hit ?_
    | refine At_block_miss rfl ?_
    | refine At_round_exit ?_
    | refine At_round_ret ?_)
    refine G_append0 (k := n) rfl rfl rfl (by repeat (first | exact Take.here | apply Take.there)) (by omega) rfl ?_
    intro v2
    repeat (first
    | (refine Is_move ?_; refine G_move rfl rfl ?_)
    | (refine Is_assign ?_; refine G_assign rfl rfl ?_)
    | (refine Is_bin ?_; first
      | refine G_lss_t rfl rfl (by omega) rfl ?_
      | refine G_lss_f rfl rfl (by omega) rfl ?_
      | refine G_lss rfl rfl rfl ?_
      | refine G_add rfl rfl rfl (by first | exact IntWalk.i64_in _ (by omega) | rfl) ?_
      | refine G_eql_t rfl rfl (by first | with_reducible rfl | assumption | decide +kernel | omega) rfl ?_
      | refine G_eql_f rfl rfl (by first | decide +kernel | omega | assumption) rfl ?_
      | refine G_eql rfl rfl rfl ?_
      | refine G_neq_f rfl rfl (by first | with_reducible rfl | assumption | decide +kernel | omega) rfl ?_
      | refine G_neq_t rfl rfl (by first | decide +kernel | omega | assumption) rfl ?_
      | refine G_neq rfl rfl rfl ?_
      | refine G_leq_t rfl rfl (by omega) rfl ?_
      | refine G_leq_f rfl rfl (by omega) rfl ?_
      | refine G_leq rfl rfl rfl ?_
      | refine G_gtr_t rfl rfl (by omega) rfl ?_
      | refine G_gtr_f rfl rfl (by omega) rfl ?_
      | refine G_gtr rfl rfl rfl ?_
      | refine G_geq_t rfl rfl (by omega) rfl ?_
      | refine G_geq_f rfl rfl (by omega) rfl ?_
      | refine G_geq rfl rfl rfl ?_
      | refine G_sub rfl rfl rfl (by first | exact IntWalk.i64_in _ (by omega) | rfl) ?_
      | refine G_mul rfl rfl rfl (by first | exact IntWalk.i64_in _ (by omega) | rfl) ?_
      | refine G_xor64 rfl rfl rfl ?_
      | refine G_mul64 rfl rfl rfl ?_
      | refine G_or64 rfl rfl rfl ?_
      | refine G_and64 rfl rfl rfl ?_
      | refine G_add64 rfl rfl rfl ?_
      | refine G_sub64 rfl rfl rfl ?_
      | refine G_shr64 rfl rfl rfl rfl ?_
      | refine G_shl64 rfl rfl rfl rfl ?_
      | refine G_eqlB rfl rfl rfl ?_
      | refine G_neqB rfl rfl rfl ?_)
    | (refine Is_load ?_; first
      | refine G_load rfl rfl rfl ?_
      | refine G_load_cell rfl (by first | assumption | apply_assumption) rfl ?_)
    | (refine Is_store ?_; refine G_store rfl rfl rfl rfl rfl ?_)
    | (refine Is_builtin ?_; first
      | refine G_len rfl rfl ?_)
    | (refine Is_nilCheck ?_; refine G_nilCheck rfl rfl ?_)
    | (refine Is_convert ?_; first
      | refine G_u64_int rfl rfl ?_
      | refine G_to_u64 rfl rfl ?_
      | refine G_conv _ rfl rfl (by first | exact IntWalk.i64_in _ (by omega) | rfl) ?_)
    | (refine Is_fieldAddr ?_; refine G_fieldOff rfl rfl ?_)
    | (refine Is_indexAddr ?_; refine G_indexA rfl rfl (by first | decide | omega) rfl ?_)
    | (refine Is_un ?_; refine G_not rfl rfl ?_)
    | (refine Is_makeFunc ?_; refine G_makeFunc rfl rfl rfl ?_)
    | (refine Is_extract ?_; refine G_extract rfl rfl rfl ?_)
    | (refine Is_guard ?_; first
      | refine G_guard_yes (by rw [hops.eq]; rfl) rfl (by simp) ?_
      | refine G_guard_no (by rw [hops.eq]; rfl) rfl rfl rfl ?_)
    | (refine Is_pick ?_; first
      | refine G_pick_t rfl rfl rfl ?_
      | refine G_pick_f rfl rfl rfl ?_)
    | refine GC_cond_t rfl ?_
    | refine GC_cond_f rfl ?_
    | refine GC_seq ?_
    | refine GC_region (fun ops hops => ?_)
    | (refine G_nil ?_; try clear hops; try clear ops)
    | refine At_then ?_
    | refine GC_skip ?_
    | refine GC_block ?_
    | refine GC_exit ?_
    | refine GC_ret ?_
    | refine At_then_exit ?_
    | refine At_then_ret ?_
    | refine At_block ?_
    | refine At_block_ret ?_
    | refine At_block_hit ?_
    | refine At_block_miss rfl ?_
    | refine At_round_exit ?_
    | refine At_round_ret ?_)
    have r2 : ∀ w1, w1.ownsRow 0 5 1 v2 (0 + bs.length + n) ([] ++ List.map B8 bs ++ List.replicate n (.int .u8 0)) → Rd w1 v2 1 ((bs ++ List.replicate n 0#8).map B8) := fun w1 h1 => by
      have := rd_own h1
      rwa [List.map_append, List.map_replicate]
    refine G_call rfl (fun w1 hw1 => dig_Bytes v2 (bs ++ List.replicate n 0#8) w1 (r2 w1 (hw1.ok (.own v2 5 1 _ _) (by repeat (first | exact List.Mem.head _ | apply List.Mem.tail))))) rfl ?_
    repeat (first
    | (refine Is_move ?_; refine G_move rfl rfl ?_)
    | (refine Is_assign ?_; refine G_assign rfl rfl ?_)
    | (refine Is_bin ?_; first
      | refine G_lss_t rfl rfl (by omega) rfl ?_
      | refine G_lss_f rfl rfl (by omega) rfl ?_
      | refine G_lss rfl rfl rfl ?_
      | refine G_add rfl rfl rfl (by first | exact IntWalk.i64_in _ (by omega) | rfl) ?_
      | refine G_eql_t rfl rfl (by first | with_reducible rfl | assumption | decide +kernel | omega) rfl ?_
      | refine G_eql_f rfl rfl (by first | decide +kernel | omega | assumption) rfl ?_
      | refine G_eql rfl rfl rfl ?_
      | refine G_neq_f rfl rfl (by first | with_reducible rfl | assumption | decide +kernel | omega) rfl ?_
      | refine G_neq_t rfl rfl (by first | decide +kernel | omega | assumption) rfl ?_
      | refine G_neq rfl rfl rfl ?_
      | refine G_leq_t rfl rfl (by omega) rfl ?_
      | refine G_leq_f rfl rfl (by omega) rfl ?_
      | refine G_leq rfl rfl rfl ?_
      | refine G_gtr_t rfl rfl (by omega) rfl ?_
      | refine G_gtr_f rfl rfl (by omega) rfl ?_
      | refine G_gtr rfl rfl rfl ?_
      | refine G_geq_t rfl rfl (by omega) rfl ?_
      | refine G_geq_f rfl rfl (by omega) rfl ?_
      | refine G_geq rfl rfl rfl ?_
      | refine G_sub rfl rfl rfl (by first | exact IntWalk.i64_in _ (by omega) | rfl) ?_
      | refine G_mul rfl rfl rfl (by first | exact IntWalk.i64_in _ (by omega) | rfl) ?_
      | refine G_xor64 rfl rfl rfl ?_
      | refine G_mul64 rfl rfl rfl ?_
      | refine G_or64 rfl rfl rfl ?_
      | refine G_and64 rfl rfl rfl ?_
      | refine G_add64 rfl rfl rfl ?_
      | refine G_sub64 rfl rfl rfl ?_
      | refine G_shr64 rfl rfl rfl rfl ?_
      | refine G_shl64 rfl rfl rfl rfl ?_
      | refine G_eqlB rfl rfl rfl ?_
      | refine G_neqB rfl rfl rfl ?_)
    | (refine Is_load ?_; first
      | refine G_load rfl rfl rfl ?_
      | refine G_load_cell rfl (by first | assumption | apply_assumption) rfl ?_)
    | (refine Is_store ?_; refine G_store rfl rfl rfl rfl rfl ?_)
    | (refine Is_builtin ?_; first
      | refine G_len rfl rfl ?_)
    | (refine Is_nilCheck ?_; refine G_nilCheck rfl rfl ?_)
    | (refine Is_convert ?_; first
      | refine G_u64_int rfl rfl ?_
      | refine G_to_u64 rfl rfl ?_
      | refine G_conv _ rfl rfl (by first | exact IntWalk.i64_in _ (by omega) | rfl) ?_)
    | (refine Is_fieldAddr ?_; refine G_fieldOff rfl rfl ?_)
    | (refine Is_indexAddr ?_; refine G_indexA rfl rfl (by first | decide | omega) rfl ?_)
    | (refine Is_un ?_; refine G_not rfl rfl ?_)
    | (refine Is_makeFunc ?_; refine G_makeFunc rfl rfl rfl ?_)
    | (refine Is_extract ?_; refine G_extract rfl rfl rfl ?_)
    | (refine Is_guard ?_; first
      | refine G_guard_yes (by rw [hops.eq]; rfl) rfl (by simp) ?_
      | refine G_guard_no (by rw [hops.eq]; rfl) rfl rfl rfl ?_)
    | (refine Is_pick ?_; first
      | refine G_pick_t rfl rfl rfl ?_
      | refine G_pick_f rfl rfl rfl ?_)
    | refine GC_cond_t rfl ?_
    | refine GC_cond_f rfl ?_
    | refine GC_seq ?_
    | refine GC_region (fun ops hops => ?_)
    | (refine G_nil ?_; try clear hops; try clear ops)
    | refine At_then ?_
    | refine GC_skip ?_
    | refine GC_block ?_
    | refine GC_exit ?_
    | refine GC_ret ?_
    | refine At_then_exit ?_
    | refine At_then_ret ?_
    | refine At_block ?_
    | refine At_block_ret ?_
    | refine At_block_hit ?_
    | refine At_block_miss rfl ?_
    | refine At_round_exit ?_
    | refine At_round_ret ?_)
    refine G_call rfl (fun w1 hw1 => dig_Bytes _ bs w1 (hO.now w1 hw1)) rfl ?_
    have e := digBy_pad bs n (by omega) (by omega) (by omega)
    unfold digBy at e
    have e' : ∀ {p q : BitVec 64}, (p = q ↔ n = 0) → (((p.toNat : Int) = q.toNat) ↔ n = 0) := fun h => by
      rw [← h]
      exact ⟨fun h => BitVec.eq_of_toNat_eq (by omega), fun h => by rw [h]⟩
    have e1 := e' e
    by_cases hn0 : n = 0
    · have e2 := e1.2 hn0
      repeat (first
    | (refine Is_move ?_; refine G_move rfl rfl ?_)
    | (refine Is_assign ?_; refine G_assign rfl rfl ?_)
    | (refine Is_bin ?_; first
      | refine G_lss_t rfl rfl (by omega) rfl ?_
      | refine G_lss_f rfl rfl (by omega) rfl ?_
      | refine G_lss rfl rfl rfl ?_
      | refine G_add rfl rfl rfl (by first | exact IntWalk.i64_in _ (by omega) | rfl) ?_
      | refine G_eql_t rfl rfl (by first | with_reducible rfl | assumption | decide +kernel | omega) rfl ?_
      | refine G_eql_f rfl rfl (by first | decide +kernel | omega | assumption) rfl ?_
      | refine G_eql rfl rfl rfl ?_
      | refine G_neq_f rfl rfl (by first | with_reducible rfl | assumption | decide +kernel | omega) rfl ?_
      | refine G_neq_t rfl rfl (by first | decide +kernel | omega | assumption) rfl ?_
      | refine G_neq rfl rfl rfl ?_
      | refine G_leq_t rfl rfl (by omega) rfl ?_
      | refine G_leq_f rfl rfl (by omega) rfl ?_
      | refine G_leq rfl rfl rfl ?_
      | refine G_gtr_t rfl rfl (by omega) rfl ?_
      | refine G_gtr_f rfl rfl (by omega) rfl ?_
      | refine G_gtr rfl rfl rfl ?_
      | refine G_geq_t rfl rfl (by omega) rfl ?_
      | refine G_geq_f rfl rfl (by omega) rfl ?_
      | refine G_geq rfl rfl rfl ?_
      | refine G_sub rfl rfl rfl (by first | exact IntWalk.i64_in _ (by omega) | rfl) ?_
      | refine G_mul rfl rfl rfl (by first | exact IntWalk.i64_in _ (by omega) | rfl) ?_
      | refine G_xor64 rfl rfl rfl ?_
      | refine G_mul64 rfl rfl rfl ?_
      | refine G_or64 rfl rfl rfl ?_
      | refine G_and64 rfl rfl rfl ?_
      | refine G_add64 rfl rfl rfl ?_
      | refine G_sub64 rfl rfl rfl ?_
      | refine G_shr64 rfl rfl rfl rfl ?_
      | refine G_shl64 rfl rfl rfl rfl ?_
      | refine G_eqlB rfl rfl rfl ?_
      | refine G_neqB rfl rfl rfl ?_)
    | (refine Is_load ?_; first
      | refine G_load rfl rfl rfl ?_
      | refine G_load_cell rfl (by first | assumption | apply_assumption) rfl ?_)
    | (refine Is_store ?_; refine G_store rfl rfl rfl rfl rfl ?_)
    | (refine Is_builtin ?_; first
      | refine G_len rfl rfl ?_)
    | (refine Is_nilCheck ?_; refine G_nilCheck rfl rfl ?_)
    | (refine Is_convert ?_; first
      | refine G_u64_int rfl rfl ?_
      | refine G_to_u64 rfl rfl ?_
      | refine G_conv _ rfl rfl (by first | exact IntWalk.i64_in _ (by omega) | rfl) ?_)
    | (refine Is_fieldAddr ?_; refine G_fieldOff rfl rfl ?_)
    | (refine Is_indexAddr ?_; refine G_indexA rfl rfl (by first | decide | omega) rfl ?_)
    | (refine Is_un ?_; refine G_not rfl rfl ?_)
    | (refine Is_makeFunc ?_; refine G_makeFunc rfl rfl rfl ?_)
    | (refine Is_extract ?_; refine G_extract rfl rfl rfl ?_)
    | (refine Is_guard ?_; first
      | refine G_guard_yes (by rw [hops.eq]; rfl) rfl (by simp) ?_
      | refine G_guard_no (by rw [hops.eq]; rfl) rfl rfl rfl ?_)
    | (refine Is_pick ?_; first
      | refine G_pick_t rfl rfl rfl ?_
      | refine G_pick_f rfl rfl rfl ?_)
    | refine GC_cond_t rfl ?_
    | refine GC_cond_f rfl ?_
    | refine GC_seq ?_
    | refine GC_region (fun ops hops => ?_)
    | (refine G_nil ?_; try clear hops; try clear ops)
    | refine At_then ?_
    | refine GC_skip ?_
    | refine GC_block ?_
    | refine GC_exit ?_
    | refine GC_ret ?_
    | refine At_then_exit ?_
    | refine At_then_ret ?_
    | refine At_block ?_
    | refine At_block_ret ?_
    | refine At_block_hit ?_
    | refine At_block_miss rfl ?_
    | refine At_round_exit ?_
    | refine At_round_ret ?_)
      (refine G_buildSlice   rfl rfl rfl rfl rfl rfl ?_; intro g2)
      repeat (first
    | (refine Is_move ?_; refine G_move rfl rfl ?_)
    | (refine Is_assign ?_; refine G_assign rfl rfl ?_)
    | (refine Is_bin ?_; first
      | refine G_lss_t rfl rfl (by omega) rfl ?_
      | refine G_lss_f rfl rfl (by omega) rfl ?_
      | refine G_lss rfl rfl rfl ?_
      | refine G_add rfl rfl rfl (by first | exact IntWalk.i64_in _ (by omega) | rfl) ?_
      | refine G_eql_t rfl rfl (by first | with_reducible rfl | assumption | decide +kernel | omega) rfl ?_
      | refine G_eql_f rfl rfl (by first | decide +kernel | omega | assumption) rfl ?_
      | refine G_eql rfl rfl rfl ?_
      | refine G_neq_f rfl rfl (by first | with_reducible rfl | assumption | decide +kernel | omega) rfl ?_
      | refine G_neq_t rfl rfl (by first | decide +kernel | omega | assumption) rfl ?_
      | refine G_neq rfl rfl rfl ?_
      | refine G_leq_t rfl rfl (by omega) rfl ?_
      | refine G_leq_f rfl rfl (by omega) rfl ?_
      | refine G_leq rfl rfl rfl ?_
      | refine G_gtr_t rfl rfl (by omega) rfl ?_
      | refine G_gtr_f rfl rfl (by omega) rfl ?_
      | refine G_gtr rfl rfl rfl ?_
      | refine G_geq_t rfl rfl (by omega) rfl ?_
      | refine G_geq_f rfl rfl (by omega) rfl ?_
      | refine G_geq rfl rfl rfl ?_
      | refine G_sub rfl rfl rfl (by first | exact IntWalk.i64_in _ (by omega) | rfl) ?_
      | refine G_mul rfl rfl rfl (by first | exact IntWalk.i64_in _ (by omega) | rfl) ?_
      | refine G_xor64 rfl rfl rfl ?_
      | refine G_mul64 rfl rfl rfl ?_
      | refine G_or64 rfl rfl rfl ?_
      | refine G_and64 rfl rfl rfl ?_
      | refine G_add64 rfl rfl rfl ?_
      | refine G_sub64 rfl rfl rfl ?_
      | refine G_shr64 rfl rfl rfl rfl ?_
      | refine G_shl64 rfl rfl rfl rfl ?_
      | refine G_eqlB rfl rfl rfl ?_
      | refine G_neqB rfl rfl rfl ?_)
    | (refine Is_load ?_; first
      | refine G_load rfl rfl rfl ?_
      | refine G_load_cell rfl (by first | assumption | apply_assumption) rfl ?_)
    | (refine Is_store ?_; refine G_store rfl rfl rfl rfl rfl ?_)
    | (refine Is_builtin ?_; first
      | refine G_len rfl rfl ?_)
    | (refine Is_nilCheck ?_; refine G_nilCheck rfl rfl ?_)
    | (refine Is_convert ?_; first
      | refine G_u64_int rfl rfl ?_
      | refine G_to_u64 rfl rfl ?_
      | refine G_conv _ rfl rfl (by first | exact IntWalk.i64_in _ (by omega) | rfl) ?_)
    | (refine Is_fieldAddr ?_; refine G_fieldOff rfl rfl ?_)
    | (refine Is_indexAddr ?_; refine G_indexA rfl rfl (by first | decide | omega) rfl ?_)
    | (refine Is_un ?_; refine G_not rfl rfl ?_)
    | (refine Is_makeFunc ?_; refine G_makeFunc rfl rfl rfl ?_)
    | (refine Is_extract ?_; refine G_extract rfl rfl rfl ?_)
    | (refine Is_guard ?_; first
      | refine G_guard_yes (by rw [hops.eq]; rfl) rfl (by simp) ?_
      | refine G_guard_no (by rw [hops.eq]; rfl) rfl rfl rfl ?_)
    | (refine Is_pick ?_; first
      | refine G_pick_t rfl rfl rfl ?_
      | refine G_pick_f rfl rfl rfl ?_)
    | refine GC_cond_t rfl ?_
    | refine GC_cond_f rfl ?_
    | refine GC_seq ?_
    | refine GC_region (fun ops hops => ?_)
    | (refine G_nil ?_; try clear hops; try clear ops)
    | refine At_then ?_
    | refine GC_skip ?_
    | refine GC_block ?_
    | refine GC_exit ?_
    | refine GC_ret ?_
    | refine At_then_exit ?_
    | refine At_then_ret ?_
    | refine At_block ?_
    | refine At_block_ret ?_
    | refine At_block_hit ?_
    | refine At_block_miss rfl ?_
    | refine At_round_exit ?_
    | refine At_round_ret ?_)
      refine G_own (by repeat (first | exact Take.here | apply Take.there)) (sz := 1) (n := 0) rfl (by simp [maxLen]) ?_
      repeat (first
    | (refine Is_move ?_; refine G_move rfl rfl ?_)
    | (refine Is_assign ?_; refine G_assign rfl rfl ?_)
    | (refine Is_bin ?_; first
      | refine G_lss_t rfl rfl (by omega) rfl ?_
      | refine G_lss_f rfl rfl (by omega) rfl ?_
      | refine G_lss rfl rfl rfl ?_
      | refine G_add rfl rfl rfl (by first | exact IntWalk.i64_in _ (by omega) | rfl) ?_
      | refine G_eql_t rfl rfl (by first | with_reducible rfl | assumption | decide +kernel | omega) rfl ?_
      | refine G_eql_f rfl rfl (by first | decide +kernel | omega | assumption) rfl ?_
      | refine G_eql rfl rfl rfl ?_
      | refine G_neq_f rfl rfl (by first | with_reducible rfl | assumption | decide +kernel | omega) rfl ?_
      | refine G_neq_t rfl rfl (by first | decide +kernel | omega | assumption) rfl ?_
      | refine G_neq rfl rfl rfl ?_
      | refine G_leq_t rfl rfl (by omega) rfl ?_
      | refine G_leq_f rfl rfl (by omega) rfl ?_
      | refine G_leq rfl rfl rfl ?_
      | refine G_gtr_t rfl rfl (by omega) rfl ?_
      | refine G_gtr_f rfl rfl (by omega) rfl ?_
      | refine G_gtr rfl rfl rfl ?_
      | refine G_geq_t rfl rfl (by omega) rfl ?_
      | refine G_geq_f rfl rfl (by omega) rfl ?_
      | refine G_geq rfl rfl rfl ?_
      | refine G_sub rfl rfl rfl (by first | exact IntWalk.i64_in _ (by omega) | rfl) ?_
      | refine G_mul rfl rfl rfl (by first | exact IntWalk.i64_in _ (by omega) | rfl) ?_
      | refine G_xor64 rfl rfl rfl ?_
      | refine G_mul64 rfl rfl rfl ?_
      | refine G_or64 rfl rfl rfl ?_
      | refine G_and64 rfl rfl rfl ?_
      | refine G_add64 rfl rfl rfl ?_
      | refine G_sub64 rfl rfl rfl ?_
      | refine G_shr64 rfl rfl rfl rfl ?_
      | refine G_shl64 rfl rfl rfl rfl ?_
      | refine G_eqlB rfl rfl rfl ?_
      | refine G_neqB rfl rfl rfl ?_)
    | (refine Is_load ?_; first
      | refine G_load rfl rfl rfl ?_
      | refine G_load_cell rfl (by first | assumption | apply_assumption) rfl ?_)
    | (refine Is_store ?_; refine G_store rfl rfl rfl rfl rfl ?_)
    | (refine Is_builtin ?_; first
      | refine G_len rfl rfl ?_)
    | (refine Is_nilCheck ?_; refine G_nilCheck rfl rfl ?_)
    | (refine Is_convert ?_; first
      | refine G_u64_int rfl rfl ?_
      | refine G_to_u64 rfl rfl ?_
      | refine G_conv _ rfl rfl (by first | exact IntWalk.i64_in _ (by omega) | rfl) ?_)
    | (refine Is_fieldAddr ?_; refine G_fieldOff rfl rfl ?_)
    | (refine Is_indexAddr ?_; refine G_indexA rfl rfl (by first | decide | omega) rfl ?_)
    | (refine Is_un ?_; refine G_not rfl rfl ?_)
    | (refine Is_makeFunc ?_; refine G_makeFunc rfl rfl rfl ?_)
    | (refine Is_extract ?_; refine G_extract rfl rfl rfl ?_)
    | (refine Is_guard ?_; first
      | refine G_guard_yes (by rw [hops.eq]; rfl) rfl (by simp) ?_
      | refine G_guard_no (by rw [hops.eq]; rfl) rfl rfl rfl ?_)
    | (refine Is_pick ?_; first
      | refine G_pick_t rfl rfl rfl ?_
      | refine G_pick_f rfl rfl rfl ?_)
    | refine GC_cond_t rfl ?_
    | refine GC_cond_f rfl ?_
    | refine GC_seq ?_
    | refine GC_region (fun ops hops => ?_)
    | (refine G_nil ?_; try clear hops; try clear ops)
    | refine At_then ?_
    | refine GC_skip ?_
    | refine GC_block ?_
    | refine GC_exit ?_
    | refine GC_ret ?_
    | refine At_then_exit ?_
    | refine At_then_ret ?_
    | refine At_block ?_
    | refine At_block_ret ?_
    | refine At_block_hit ?_
    | refine At_block_miss rfl ?_
    | refine At_round_exit ?_
    | refine At_round_ret ?_)
      refine G_append (k := bs.length) (ys := bs.map B8) rfl rfl (by repeat (first | exact Take.here | apply Take.there)) hO.now (by simp) (by simp [Value.oneCell']) (by omega) rfl ?_
      intro v3
      repeat (first
    | (refine Is_move ?_; refine G_move rfl rfl ?_)
    | (refine Is_assign ?_; refine G_assign rfl rfl ?_)
    | (refine Is_bin ?_; first
      | refine G_lss_t rfl rfl (by omega) rfl ?_
      | refine G_lss_f rfl rfl (by omega) rfl ?_
      | refine G_lss rfl rfl rfl ?_
      | refine G_add rfl rfl rfl (by first | exact IntWalk.i64_in _ (by omega) | rfl) ?_
      | refine G_eql_t rfl rfl (by first | with_reducible rfl | assumption | decide +kernel | omega) rfl ?_
      | refine G_eql_f rfl rfl (by first | decide +kernel | omega | assumption) rfl ?_
      | refine G_eql rfl rfl rfl ?_
      | refine G_neq_f rfl rfl (by first | with_reducible rfl | assumption | decide +kernel | omega) rfl ?_
      | refine G_neq_t rfl rfl (by first | decide +kernel | omega | assumption) rfl ?_
      | refine G_neq rfl rfl rfl ?_
      | refine G_leq_t rfl rfl (by omega) rfl ?_
      | refine G_leq_f rfl rfl (by omega) rfl ?_
      | refine G_leq rfl rfl rfl ?_
      | refine G_gtr_t rfl rfl (by omega) rfl ?_
      | refine G_gtr_f rfl rfl (by omega) rfl ?_
      | refine G_gtr rfl rfl rfl ?_
      | refine G_geq_t rfl rfl (by omega) rfl ?_
      | refine G_geq_f rfl rfl (by omega) rfl ?_
      | refine G_geq rfl rfl rfl ?_
      | refine G_sub rfl rfl rfl (by first | exact IntWalk.i64_in _ (by omega) | rfl) ?_
      | refine G_mul rfl rfl rfl (by first | exact IntWalk.i64_in _ (by omega) | rfl) ?_
      | refine G_xor64 rfl rfl rfl ?_
      | refine G_mul64 rfl rfl rfl ?_
      | refine G_or64 rfl rfl rfl ?_
      | refine G_and64 rfl rfl rfl ?_
      | refine G_add64 rfl rfl rfl ?_
      | refine G_sub64 rfl rfl rfl ?_
      | refine G_shr64 rfl rfl rfl rfl ?_
      | refine G_shl64 rfl rfl rfl rfl ?_
      | refine G_eqlB rfl rfl rfl ?_
      | refine G_neqB rfl rfl rfl ?_)
    | (refine Is_load ?_; first
      | refine G_load rfl rfl rfl ?_
      | refine G_load_cell rfl (by first | assumption | apply_assumption) rfl ?_)
    | (refine Is_store ?_; refine G_store rfl rfl rfl rfl rfl ?_)
    | (refine Is_builtin ?_; first
      | refine G_len rfl rfl ?_)
    | (refine Is_nilCheck ?_; refine G_nilCheck rfl rfl ?_)
    | (refine Is_convert ?_; first
      | refine G_u64_int rfl rfl ?_
      | refine G_to_u64 rfl rfl ?_
      | refine G_conv _ rfl rfl (by first | exact IntWalk.i64_in _ (by omega) | rfl) ?_)
    | (refine Is_fieldAddr ?_; refine G_fieldOff rfl rfl ?_)
    | (refine Is_indexAddr ?_; refine G_indexA rfl rfl (by first | decide | omega) rfl ?_)
    | (refine Is_un ?_; refine G_not rfl rfl ?_)
    | (refine Is_makeFunc ?_; refine G_makeFunc rfl rfl rfl ?_)
    | (refine Is_extract ?_; refine G_extract rfl rfl rfl ?_)
    | (refine Is_guard ?_; first
      | refine G_guard_yes (by rw [hops.eq]; rfl) rfl (by simp) ?_
      | refine G_guard_no (by rw [hops.eq]; rfl) rfl rfl rfl ?_)
    | (refine Is_pick ?_; first
      | refine G_pick_t rfl rfl rfl ?_
      | refine G_pick_f rfl rfl rfl ?_)
    | refine GC_cond_t rfl ?_
    | refine GC_cond_f rfl ?_
    | refine GC_seq ?_
    | refine GC_region (fun ops hops => ?_)
    | (refine G_nil ?_; try clear hops; try clear ops)
    | refine At_then ?_
    | refine GC_skip ?_
    | refine GC_block ?_
    | refine GC_exit ?_
    | refine GC_ret ?_
    | refine At_then_exit ?_
    | refine At_then_ret ?_
    | refine At_block ?_
    | refine At_block_ret ?_
    | refine At_block_hit ?_
    | refine At_block_miss rfl ?_
    | refine At_round_exit ?_
    | refine At_round_ret ?_)
      refine G_call rfl (fun w1 hw1 => dig_Bytes v3 bs w1 (rd_own (hw1.ok (.own v3 5 1 _ _) (by repeat (first | exact List.Mem.head _ | apply List.Mem.tail))))) rfl ?_
      repeat (first
    | (refine Is_move ?_; refine G_move rfl rfl ?_)
    | (refine Is_assign ?_; refine G_assign rfl rfl ?_)
    | (refine Is_bin ?_; first
      | refine G_lss_t rfl rfl (by omega) rfl ?_
      | refine G_lss_f rfl rfl (by omega) rfl ?_
      | refine G_lss rfl rfl rfl ?_
      | refine G_add rfl rfl rfl (by first | exact IntWalk.i64_in _ (by omega) | rfl) ?_
      | refine G_eql_t rfl rfl (by first | with_reducible rfl | assumption | decide +kernel | omega) rfl ?_
      | refine G_eql_f rfl rfl (by first | decide +kernel | omega | assumption) rfl ?_
      | refine G_eql rfl rfl rfl ?_
      | refine G_neq_f rfl rfl (by first | with_reducible rfl | assumption | decide +kernel | omega) rfl ?_
      | refine G_neq_t rfl rfl (by first | decide +kernel | omega | assumption) rfl ?_
      | refine G_neq rfl rfl rfl ?_
      | refine G_leq_t rfl rfl (by omega) rfl ?_
      | refine G_leq_f rfl rfl (by omega) rfl ?_
      | refine G_leq rfl rfl rfl ?_
      | refine G_gtr_t rfl rfl (by omega) rfl ?_
      | refine G_gtr_f rfl rfl (by omega) rfl ?_
      | refine G_gtr rfl rfl rfl ?_
      | refine G_geq_t rfl rfl (by omega) rfl ?_
      | refine G_geq_f rfl rfl (by omega) rfl ?_
      | refine G_geq rfl rfl rfl ?_
      | refine G_sub rfl rfl rfl (by first | exact IntWalk.i64_in _ (by omega) | rfl) ?_
      | refine G_mul rfl rfl rfl (by first | exact IntWalk.i64_in _ (by omega) | rfl) ?_
      | refine G_xor64 rfl rfl rfl ?_
      | refine G_mul64 rfl rfl rfl ?_
      | refine G_or64 rfl rfl rfl ?_
      | refine G_and64 rfl rfl rfl ?_
      | refine G_add64 rfl rfl rfl ?_
      | refine G_sub64 rfl rfl rfl ?_
      | refine G_shr64 rfl rfl rfl rfl ?_
      | refine G_shl64 rfl rfl rfl rfl ?_
      | refine G_eqlB rfl rfl rfl ?_
      | refine G_neqB rfl rfl rfl ?_)
    | (refine Is_load ?_; first
      | refine G_load rfl rfl rfl ?_
      | refine G_load_cell rfl (by first | assumption | apply_assumption) rfl ?_)
    | (refine Is_store ?_; refine G_store rfl rfl rfl rfl rfl ?_)
    | (refine Is_builtin ?_; first
      | refine G_len rfl rfl ?_)
    | (refine Is_nilCheck ?_; refine G_nilCheck rfl rfl ?_)
    | (refine Is_convert ?_; first
      | refine G_u64_int rfl rfl ?_
      | refine G_to_u64 rfl rfl ?_
      | refine G_conv _ rfl rfl (by first | exact IntWalk.i64_in _ (by omega) | rfl) ?_)
    | (refine Is_fieldAddr ?_; refine G_fieldOff rfl rfl ?_)
    | (refine Is_indexAddr ?_; refine G_indexA rfl rfl (by first | decide | omega) rfl ?_)
    | (refine Is_un ?_; refine G_not rfl rfl ?_)
    | (refine Is_makeFunc ?_; refine G_makeFunc rfl rfl rfl ?_)
    | (refine Is_extract ?_; refine G_extract rfl rfl rfl ?_)
    | (refine Is_guard ?_; first
      | refine G_guard_yes (by rw [hops.eq]; rfl) rfl (by simp) ?_
      | refine G_guard_no (by rw [hops.eq]; rfl) rfl rfl rfl ?_)
    | (refine Is_pick ?_; first
      | refine G_pick_t rfl rfl rfl ?_
      | refine G_pick_f rfl rfl rfl ?_)
    | refine GC_cond_t rfl ?_
    | refine GC_cond_f rfl ?_
    | refine GC_seq ?_
    | refine GC_region (fun ops hops => ?_)
    | (refine G_nil ?_; try clear hops; try clear ops)
    | refine At_then ?_
    | refine GC_skip ?_
    | refine GC_block ?_
    | refine GC_exit ?_
    | refine GC_ret ?_
    | refine At_then_exit ?_
    | refine At_then_ret ?_
    | refine At_block ?_
    | refine At_block_ret ?_
    | refine At_block_hit ?_
    | refine At_block_miss rfl ?_
    | refine At_round_exit ?_
    | refine At_round_ret ?_)
      refine G_call rfl (fun w1 hw1 => dig_Bytes _ bs w1 (hO.now w1 hw1)) rfl ?_
      repeat (first
    | (refine Is_move ?_; refine G_move rfl rfl ?_)
    | (refine Is_assign ?_; refine G_assign rfl rfl ?_)
    | (refine Is_bin ?_; first
      | refine G_lss_t rfl rfl (by omega) rfl ?_
      | refine G_lss_f rfl rfl (by omega) rfl ?_
      | refine G_lss rfl rfl rfl ?_
      | refine G_add rfl rfl rfl (by first | exact IntWalk.i64_in _ (by omega) | rfl) ?_
      | refine G_eql_t rfl rfl (by first | with_reducible rfl | assumption | decide +kernel | omega) rfl ?_
      | refine G_eql_f rfl rfl (by first | decide +kernel | omega | assumption) rfl ?_
      | refine G_eql rfl rfl rfl ?_
      | refine G_neq_f rfl rfl (by first | with_reducible rfl | assumption | decide +kernel | omega) rfl ?_
      | refine G_neq_t rfl rfl (by first | decide +kernel | omega | assumption) rfl ?_
      | refine G_neq rfl rfl rfl ?_
      | refine G_leq_t rfl rfl (by omega) rfl ?_
      | refine G_leq_f rfl rfl (by omega) rfl ?_
      | refine G_leq rfl rfl rfl ?_
      | refine G_gtr_t rfl rfl (by omega) rfl ?_
      | refine G_gtr_f rfl rfl (by omega) rfl ?_
      | refine G_gtr rfl rfl rfl ?_
      | refine G_geq_t rfl rfl (by omega) rfl ?_
      | refine G_geq_f rfl rfl (by omega) rfl ?_
      | refine G_geq rfl rfl rfl ?_
      | refine G_sub rfl rfl rfl (by first | exact IntWalk.i64_in _ (by omega) | rfl) ?_
      | refine G_mul rfl rfl rfl (by first | exact IntWalk.i64_in _ (by omega) | rfl) ?_
      | refine G_xor64 rfl rfl rfl ?_
      | refine G_mul64 rfl rfl rfl ?_
      | refine G_or64 rfl rfl rfl ?_
      | refine G_and64 rfl rfl rfl ?_
      | refine G_add64 rfl rfl rfl ?_
      | refine G_sub64 rfl rfl rfl ?_
      | refine G_shr64 rfl rfl rfl rfl ?_
      | refine G_shl64 rfl rfl rfl rfl ?_
      | refine G_eqlB rfl rfl rfl ?_
      | refine G_neqB rfl rfl rfl ?_)
    | (refine Is_load ?_; first
      | refine G_load rfl rfl rfl ?_
      | refine G_load_cell rfl (by first | assumption | apply_assumption) rfl ?_)
    | (refine Is_store ?_; refine G_store rfl rfl rfl rfl rfl ?_)
    | (refine Is_builtin ?_; first
      | refine G_len rfl rfl ?_)
    | (refine Is_nilCheck ?_; refine G_nilCheck rfl rfl ?_)
    | (refine Is_convert ?_; first
      | refine G_u64_int rfl rfl ?_
      | refine G_to_u64 rfl rfl ?_
      | refine G_conv _ rfl rfl (by first | exact IntWalk.i64_in _ (by omega) | rfl) ?_)
    | (refine Is_fieldAddr ?_; refine G_fieldOff rfl rfl ?_)
    | (refine Is_indexAddr ?_; refine G_indexA rfl rfl (by first | decide | omega) rfl ?_)
    | (refine Is_un ?_; refine G_not rfl rfl ?_)
    | (refine Is_makeFunc ?_; refine G_makeFunc rfl rfl rfl ?_)
    | (refine Is_extract ?_; refine G_extract rfl rfl rfl ?_)
    | (refine Is_guard ?_; first
      | refine G_guard_yes (by rw [hops.eq]; rfl) rfl (by simp) ?_
      | refine G_guard_no (by rw [hops.eq]; rfl) rfl rfl rfl ?_)
    | (refine Is_pick ?_; first
      | refine G_pick_t rfl rfl rfl ?_
      | refine G_pick_f rfl rfl rfl ?_)
    | refine GC_cond_t rfl ?_
    | refine GC_cond_f rfl ?_
    | refine GC_seq ?_
    | refine GC_region (fun ops hops => ?_)
    | (refine G_nil ?_; try clear hops; try clear ops)
    | refine At_then ?_
    | refine GC_skip ?_
    | refine GC_block ?_
    | refine GC_exit ?_
    | refine GC_ret ?_
    | refine At_then_exit ?_
    | refine At_then_ret ?_
    | refine At_block ?_
    | refine At_block_ret ?_
    | refine At_block_hit ?_
    | refine At_block_miss rfl ?_
    | refine At_round_exit ?_
    | refine At_round_ret ?_)
      exact ret_one rfl rfl fun w' h' => ⟨rfl, h'.drop (by simp)⟩
    · refine G_eql_f rfl rfl (fun h => hn0 (e1.1 h)) rfl ?_
      refine G_move rfl rfl ?_
      refine G_eql_f rfl rfl (by omega) rfl ?_
      clear e e1 e' r2 hroom hn
      repeat (first
    | (refine Is_move ?_; refine G_move rfl rfl ?_)
    | (refine Is_assign ?_; refine G_assign rfl rfl ?_)
    | (refine Is_bin ?_; first
      | refine G_lss_t rfl rfl (by omega) rfl ?_
      | refine G_lss_f rfl rfl (by omega) rfl ?_
      | refine G_lss rfl rfl rfl ?_
      | refine G_add rfl rfl rfl (by first | exact IntWalk.i64_in _ (by omega) | rfl) ?_
      | refine G_eql_t rfl rfl (by first | with_reducible rfl | assumption | decide +kernel | omega) rfl ?_
      | refine G_eql_f rfl rfl (by first | decide +kernel | omega | assumption) rfl ?_
      | refine G_eql rfl rfl rfl ?_
      | refine G_neq_f rfl rfl (by first | with_reducible rfl | assumption | decide +kernel | omega) rfl ?_
      | refine G_neq_t rfl rfl (by first | decide +kernel | omega | assumption) rfl ?_
      | refine G_neq rfl rfl rfl ?_
      | refine G_leq_t rfl rfl (by omega) rfl ?_
      | refine G_leq_f rfl rfl (by omega) rfl ?_
      | refine G_leq rfl rfl rfl ?_
      | refine G_gtr_t rfl rfl (by omega) rfl ?_
      | refine G_gtr_f rfl rfl (by omega) rfl ?_
      | refine G_gtr rfl rfl rfl ?_
      | refine G_geq_t rfl rfl (by omega) rfl ?_
      | refine G_geq_f rfl rfl (by omega) rfl ?_
      | refine G_geq rfl rfl rfl ?_
      | refine G_sub rfl rfl rfl (by first | exact IntWalk.i64_in _ (by omega) | rfl) ?_
      | refine G_mul rfl rfl rfl (by first | exact IntWalk.i64_in _ (by omega) | rfl) ?_
      | refine G_xor64 rfl rfl rfl ?_
      | refine G_mul64 rfl rfl rfl ?_
      | refine G_or64 rfl rfl rfl ?_
      | refine G_and64 rfl rfl rfl ?_
      | refine G_add64 rfl rfl rfl ?_
      | refine G_sub64 rfl rfl rfl ?_
      | refine G_shr64 rfl rfl rfl rfl ?_
      | refine G_shl64 rfl rfl rfl rfl ?_
      | refine G_eqlB rfl rfl rfl ?_
      | refine G_neqB rfl rfl rfl ?_)
    | (refine Is_load ?_; first
      | refine G_load rfl rfl rfl ?_
      | refine G_load_cell rfl (by first | assumption | apply_assumption) rfl ?_)
    | (refine Is_store ?_; refine G_store rfl rfl rfl rfl rfl ?_)
    | (refine Is_builtin ?_; first
      | refine G_len rfl rfl ?_)
    | (refine Is_nilCheck ?_; refine G_nilCheck rfl rfl ?_)
    | (refine Is_convert ?_; first
      | refine G_u64_int rfl rfl ?_
      | refine G_to_u64 rfl rfl ?_
      | refine G_conv _ rfl rfl (by first | exact IntWalk.i64_in _ (by omega) | rfl) ?_)
    | (refine Is_fieldAddr ?_; refine G_fieldOff rfl rfl ?_)
    | (refine Is_indexAddr ?_; refine G_indexA rfl rfl (by first | decide | omega) rfl ?_)
    | (refine Is_un ?_; refine G_not rfl rfl ?_)
    | (refine Is_makeFunc ?_; refine G_makeFunc rfl rfl rfl ?_)
    | (refine Is_extract ?_; refine G_extract rfl rfl rfl ?_)
    | (refine Is_guard ?_; first
      | refine G_guard_yes (by rw [hops.eq]; rfl) rfl (by simp) ?_
      | refine G_guard_no (by rw [hops.eq]; rfl) rfl rfl rfl ?_)
    | (refine Is_pick ?_; first
      | refine G_pick_t rfl rfl rfl ?_
      | refine G_pick_f rfl rfl rfl ?_)
    | refine GC_cond_t rfl ?_
    | refine GC_cond_f rfl ?_
    | refine GC_seq ?_
    | refine GC_region (fun ops hops => ?_)
    | (refine G_nil ?_; try clear hops; try clear ops)
    | refine At_then ?_
    | refine GC_skip ?_
    | refine GC_block ?_
    | refine GC_exit ?_
    | refine GC_ret ?_
    | refine At_then_exit ?_
    | refine At_then_ret ?_
    | refine At_block ?_
    | refine At_block_ret ?_
    | refine At_block_hit ?_
    | refine At_block_miss rfl ?_
    | refine At_round_exit ?_
    | refine At_round_ret ?_)
      (refine G_buildSlice   rfl rfl rfl rfl rfl rfl ?_; intro g2)
      repeat (first
    | (refine Is_move ?_; refine G_move rfl rfl ?_)
    | (refine Is_assign ?_; refine G_assign rfl rfl ?_)
    | (refine Is_bin ?_; first
      | refine G_lss_t rfl rfl (by omega) rfl ?_
      | refine G_lss_f rfl rfl (by omega) rfl ?_
      | refine G_lss rfl rfl rfl ?_
      | refine G_add rfl rfl rfl (by first | exact IntWalk.i64_in _ (by omega) | rfl) ?_
      | refine G_eql_t rfl rfl (by first | with_reducible rfl | assumption | decide +kernel | omega) rfl ?_
      | refine G_eql_f rfl rfl (by first | decide +kernel | omega | assumption) rfl ?_
      | refine G_eql rfl rfl rfl ?_
      | refine G_neq_f rfl rfl (by first | with_reducible rfl | assumption | decide +kernel | omega) rfl ?_
      | refine G_neq_t rfl rfl (by first | decide +kernel | omega | assumption) rfl ?_
      | refine G_neq rfl rfl rfl ?_
      | refine G_leq_t rfl rfl (by omega) rfl ?_
      | refine G_leq_f rfl rfl (by omega) rfl ?_
      | refine G_leq rfl rfl rfl ?_
      | refine G_gtr_t rfl rfl (by omega) rfl ?_
      | refine G_gtr_f rfl rfl (by omega) rfl ?_
      | refine G_gtr rfl rfl rfl ?_
      | refine G_geq_t rfl rfl (by omega) rfl ?_
      | refine G_geq_f rfl rfl (by omega) rfl ?_
      | refine G_geq rfl rfl rfl ?_
      | refine G_sub rfl rfl rfl (by first | exact IntWalk.i64_in _ (by omega) | rfl) ?_
      | refine G_mul rfl rfl rfl (by first | exact IntWalk.i64_in _ (by omega) | rfl) ?_
      | refine G_xor64 rfl rfl rfl ?_
      | refine G_mul64 rfl rfl rfl ?_
      | refine G_or64 rfl rfl rfl ?_
      | refine G_and64 rfl rfl rfl ?_
      | refine G_add64 rfl rfl rfl ?_
      | refine G_sub64 rfl rfl rfl ?_
      | refine G_shr64 rfl rfl rfl rfl ?_
      | refine G_shl64 rfl rfl rfl rfl ?_
      | refine G_eqlB rfl rfl rfl ?_
      | refine G_neqB rfl rfl rfl ?_)
    | (refine Is_load ?_; first
      | refine G_load rfl rfl rfl ?_
      | refine G_load_cell rfl (by first | assumption | apply_assumption) rfl ?_)
    | (refine Is_store ?_; refine G_store rfl rfl rfl rfl rfl ?_)
    | (refine Is_builtin ?_; first
      | refine G_len rfl rfl ?_)
    | (refine Is_nilCheck ?_; refine G_nilCheck rfl rfl ?_)
    | (refine Is_convert ?_; first
      | refine G_u64_int rfl rfl ?_
      | refine G_to_u64 rfl rfl ?_
      | refine G_conv _ rfl rfl (by first | exact IntWalk.i64_in _ (by omega) | rfl) ?_)
    | (refine Is_fieldAddr ?_; refine G_fieldOff rfl rfl ?_)
    | (refine Is_indexAddr ?_; refine G_indexA rfl rfl (by first | decide | omega) rfl ?_)
    | (refine Is_un ?_; refine G_not rfl rfl ?_)
    | (refine Is_makeFunc ?_; refine G_makeFunc rfl rfl rfl ?_)
    | (refine Is_extract ?_; refine G_extract rfl rfl rfl ?_)
    | (refine Is_guard ?_; first
      | refine G_guard_yes (by rw [hops.eq]; rfl) rfl (by simp) ?_
      | refine G_guard_no (by rw [hops.eq]; rfl) rfl rfl rfl ?_)
    | (refine Is_pick ?_; first
      | refine G_pick_t rfl rfl rfl ?_
      | refine G_pick_f rfl rfl rfl ?_)
    | refine GC_cond_t rfl ?_
    | refine GC_cond_f rfl ?_
    | refine GC_seq ?_
    | refine GC_region (fun ops hops => ?_)
    | (refine G_nil ?_; try clear hops; try clear ops)
    | refine At_then ?_
    | refine GC_skip ?_
    | refine GC_block ?_
    | refine GC_exit ?_
    | refine GC_ret ?_
    | refine At_then_exit ?_
    | refine At_then_ret ?_
    | refine At_block ?_
    | refine At_block_ret ?_
    | refine At_block_hit ?_
    | refine At_block_miss rfl ?_
    | refine At_round_exit ?_
    | refine At_round_ret ?_)
      refine G_own (by repeat (first | exact Take.here | apply Take.there)) (sz := 1) (n := 0) rfl (by simp [maxLen]) ?_
      repeat (first
    | (refine Is_move ?_; refine G_move rfl rfl ?_)
    | (refine Is_assign ?_; refine G_assign rfl rfl ?_)
    | (refine Is_bin ?_; first
      | refine G_lss_t rfl rfl (by omega) rfl ?_
      | refine G_lss_f rfl rfl (by omega) rfl ?_
      | refine G_lss rfl rfl rfl ?_
      | refine G_add rfl rfl rfl (by first | exact IntWalk.i64_in _ (by omega) | rfl) ?_
      | refine G_eql_t rfl rfl (by first | with_reducible rfl | assumption | decide +kernel | omega) rfl ?_
      | refine G_eql_f rfl rfl (by first | decide +kernel | omega | assumption) rfl ?_
      | refine G_eql rfl rfl rfl ?_
      | refine G_neq_f rfl rfl (by first | with_reducible rfl | assumption | decide +kernel | omega) rfl ?_
      | refine G_neq_t rfl rfl (by first | decide +kernel | omega | assumption) rfl ?_
      | refine G_neq rfl rfl rfl ?_
      | refine G_leq_t rfl rfl (by omega) rfl ?_
      | refine G_leq_f rfl rfl (by omega) rfl ?_
      | refine G_leq rfl rfl rfl ?_
      | refine G_gtr_t rfl rfl (by omega) rfl ?_
      | refine G_gtr_f rfl rfl (by omega) rfl ?_
      | refine G_gtr rfl rfl rfl ?_
      | refine G_geq_t rfl rfl (by omega) rfl ?_
      | refine G_geq_f rfl rfl (by omega) rfl ?_
      | refine G_geq rfl rfl rfl ?_
      | refine G_sub rfl rfl rfl (by first | exact IntWalk.i64_in _ (by omega) | rfl) ?_
      | refine G_mul rfl rfl rfl (by first | exact IntWalk.i64_in _ (by omega) | rfl) ?_
      | refine G_xor64 rfl rfl rfl ?_
      | refine G_mul64 rfl rfl rfl ?_
      | refine G_or64 rfl rfl rfl ?_
      | refine G_and64 rfl rfl rfl ?_
      | refine G_add64 rfl rfl rfl ?_
      | refine G_sub64 rfl rfl rfl ?_
      | refine G_shr64 rfl rfl rfl rfl ?_
      | refine G_shl64 rfl rfl rfl rfl ?_
      | refine G_eqlB rfl rfl rfl ?_
      | refine G_neqB rfl rfl rfl ?_)
    | (refine Is_load ?_; first
      | refine G_load rfl rfl rfl ?_
      | refine G_load_cell rfl (by first | assumption | apply_assumption) rfl ?_)
    | (refine Is_store ?_; refine G_store rfl rfl rfl rfl rfl ?_)
    | (refine Is_builtin ?_; first
      | refine G_len rfl rfl ?_)
    | (refine Is_nilCheck ?_; refine G_nilCheck rfl rfl ?_)
    | (refine Is_convert ?_; first
      | refine G_u64_int rfl rfl ?_
      | refine G_to_u64 rfl rfl ?_
      | refine G_conv _ rfl rfl (by first | exact IntWalk.i64_in _ (by omega) | rfl) ?_)
    | (refine Is_fieldAddr ?_; refine G_fieldOff rfl rfl ?_)
    | (refine Is_indexAddr ?_; refine G_indexA rfl rfl (by first | decide | omega) rfl ?_)
    | (refine Is_un ?_; refine G_not rfl rfl ?_)
    | (refine Is_makeFunc ?_; refine G_makeFunc rfl rfl rfl ?_)
    | (refine Is_extract ?_; refine G_extract rfl rfl rfl ?_)
    | (refine Is_guard ?_; first
      | refine G_guard_yes (by rw [hops.eq]; rfl) rfl (by simp) ?_
      | refine G_guard_no (by rw [hops.eq]; rfl) rfl rfl rfl ?_)
    | (refine Is_pick ?_; first
      | refine G_pick_t rfl rfl rfl ?_
      | refine G_pick_f rfl rfl rfl ?_)
    | refine GC_cond_t rfl ?_
    | refine GC_cond_f rfl ?_
    | refine GC_seq ?_
    | refine GC_region (fun ops hops => ?_)
    | (refine G_nil ?_; try clear hops; try clear ops)
    | refine At_then ?_
    | refine GC_skip ?_
    | refine GC_block ?_
    | refine GC_exit ?_
    | refine GC_ret ?_
    | refine At_then_exit ?_
    | refine At_then_ret ?_
    | refine At_block ?_
    | refine At_block_ret ?_
    | refine At_block_hit ?_
    | refine At_block_miss rfl ?_
    | refine At_round_exit ?_
    | refine At_round_ret ?_)
      refine G_append (k := bs.length) (ys := bs.map B8) rfl rfl (by repeat (first | exact Take.here | apply Take.there)) hO.now (by simp) (by simp [Value.oneCell']) (by omega) rfl ?_
      intro v3
      repeat (first
    | (refine Is_move ?_; refine G_move rfl rfl ?_)
    | (refine Is_assign ?_; refine G_assign rfl rfl ?_)
    | (refine Is_bin ?_; first
      | refine G_lss_t rfl rfl (by omega) rfl ?_
      | refine G_lss_f rfl rfl (by omega) rfl ?_
      | refine G_lss rfl rfl rfl ?_
      | refine G_add rfl rfl rfl (by first | exact IntWalk.i64_in _ (by omega) | rfl) ?_
      | refine G_eql_t rfl rfl (by first | with_reducible rfl | assumption | decide +kernel | omega) rfl ?_
      | refine G_eql_f rfl rfl (by first | decide +kernel | omega | assumption) rfl ?_
      | refine G_eql rfl rfl rfl ?_
      | refine G_neq_f rfl rfl (by first | with_reducible rfl | assumption | decide +kernel | omega) rfl ?_
      | refine G_neq_t rfl rfl (by first | decide +kernel | omega | assumption) rfl ?_
      | refine G_neq rfl rfl rfl ?_
      | refine G_leq_t rfl rfl (by omega) rfl ?_
      | refine G_leq_f rfl rfl (by omega) rfl ?_
      | refine G_leq rfl rfl rfl ?_
      | refine G_gtr_t rfl rfl (by omega) rfl ?_
      | refine G_gtr_f rfl rfl (by omega) rfl ?_
      | refine G_gtr rfl rfl rfl ?_
      | refine G_geq_t rfl rfl (by omega) rfl ?_
      | refine G_geq_f rfl rfl (by omega) rfl ?_
      | refine G_geq rfl rfl rfl ?_
      | refine G_sub rfl rfl rfl (by first | exact IntWalk.i64_in _ (by omega) | rfl) ?_
      | refine G_mul rfl rfl rfl (by first | exact IntWalk.i64_in _ (by omega) | rfl) ?_
      | refine G_xor64 rfl rfl rfl ?_
      | refine G_mul64 rfl rfl rfl ?_
      | refine G_or64 rfl rfl rfl ?_
      | refine G_and64 rfl rfl rfl ?_
      | refine G_add64 rfl rfl rfl ?_
      | refine G_sub64 rfl rfl rfl ?_
      | refine G_shr64 rfl rfl rfl rfl ?_
      | refine G_shl64 rfl rfl rfl rfl ?_
      | refine G_eqlB rfl rfl rfl ?_
      | refine G_neqB rfl rfl rfl ?_)
    | (refine Is_load ?_; first
      | refine G_load rfl rfl rfl ?_
      | refine G_load_cell rfl (by first | assumption | apply_assumption) rfl ?_)
    | (refine Is_store ?_; refine G_store rfl rfl rfl rfl rfl ?_)
    | (refine Is_builtin ?_; first
      | refine G_len rfl rfl ?_)
    | (refine Is_nilCheck ?_; refine G_nilCheck rfl rfl ?_)
    | (refine Is_convert ?_; first
      | refine G_u64_int rfl rfl ?_
      | refine G_to_u64 rfl rfl ?_
      | refine G_conv _ rfl rfl (by first | exact IntWalk.i64_in _ (by omega) | rfl) ?_)
    | (refine Is_fieldAddr ?_; refine G_fieldOff rfl rfl ?_)
    | (refine Is_indexAddr ?_; refine G_indexA rfl rfl (by first | decide | omega) rfl ?_)
    | (refine Is_un ?_; refine G_not rfl rfl ?_)
    | (refine Is_makeFunc ?_; refine G_makeFunc rfl rfl rfl ?_)
    | (refine Is_extract ?_; refine G_extract rfl rfl rfl ?_)
    | (refine Is_guard ?_; first
      | refine G_guard_yes (by rw [hops.eq]; rfl) rfl (by simp) ?_
      | refine G_guard_no (by rw [hops.eq]; rfl) rfl rfl rfl ?_)
    | (refine Is_pick ?_; first
      | refine G_pick_t rfl rfl rfl ?_
      | refine G_pick_f rfl rfl rfl ?_)
    | refine GC_cond_t rfl ?_
    | refine GC_cond_f rfl ?_
    | refine GC_seq ?_
    | refine GC_region (fun ops hops => ?_)
    | (refine G_nil ?_; try clear hops; try clear ops)
    | refine At_then ?_
    | refine GC_skip ?_
    | refine GC_block ?_
    | refine GC_exit ?_
    | refine GC_ret ?_
    | refine At_then_exit ?_
    | refine At_then_ret ?_
    | refine At_block ?_
    | refine At_block_ret ?_
    | refine At_block_hit ?_
    | refine At_block_miss rfl ?_
    | refine At_round_exit ?_
    | refine At_round_ret ?_)
      refine G_call rfl (fun w1 hw1 => dig_Bytes v3 bs w1 (rd_own (hw1.ok (.own v3 5 1 _ _) (by repeat (first | exact List.Mem.head _ | apply List.Mem.tail))))) rfl ?_
      repeat (first
    | (refine Is_move ?_; refine G_move rfl rfl ?_)
    | (refine Is_assign ?_; refine G_assign rfl rfl ?_)
    | (refine Is_bin ?_; first
      | refine G_lss_t rfl rfl (by omega) rfl ?_
      | refine G_lss_f rfl rfl (by omega) rfl ?_
      | refine G_lss rfl rfl rfl ?_
      | refine G_add rfl rfl rfl (by first | exact IntWalk.i64_in _ (by omega) | rfl) ?_
      | refine G_eql_t rfl rfl (by first | with_reducible rfl | assumption | decide +kernel | omega) rfl ?_
      | refine G_eql_f rfl rfl (by first | decide +kernel | omega | assumption) rfl ?_
      | refine G_eql rfl rfl rfl ?_
      | refine G_neq_f rfl rfl (by first | with_reducible rfl | assumption | decide +kernel | omega) rfl ?_
      | refine G_neq_t rfl rfl (by first | decide +kernel | omega | assumption) rfl ?_
      | refine G_neq rfl rfl rfl ?_
      | refine G_leq_t rfl rfl (by omega) rfl ?_
      | refine G_leq_f rfl rfl (by omega) rfl ?_
      | refine G_leq rfl rfl rfl ?_
      | refine G_gtr_t rfl rfl (by omega) rfl ?_
      | refine G_gtr_f rfl rfl (by omega) rfl ?_
      | refine G_gtr rfl rfl rfl ?_
      | refine G_geq_t rfl rfl (by omega) rfl ?_
      | refine G_geq_f rfl rfl (by omega) rfl ?_
      | refine G_geq rfl rfl rfl ?_
      | refine G_sub rfl rfl rfl (by first | exact IntWalk.i64_in _ (by omega) | rfl) ?_
      | refine G_mul rfl rfl rfl (by first | exact IntWalk.i64_in _ (by omega) | rfl) ?_
      | refine G_xor64 rfl rfl rfl ?_
      | refine G_mul64 rfl rfl rfl ?_
      | refine G_or64 rfl rfl rfl ?_
      | refine G_and64 rfl rfl rfl ?_
      | refine G_add64 rfl rfl rfl ?_
      | refine G_sub64 rfl rfl rfl ?_
      | refine G_shr64 rfl rfl rfl rfl ?_
      | refine G_shl64 rfl rfl rfl rfl ?_
      | refine G_eqlB rfl rfl rfl ?_
      | refine G_neqB rfl rfl rfl ?_)
    | (refine Is_load ?_; first
      | refine G_load rfl rfl rfl ?_
      | refine G_load_cell rfl (by first | assumption | apply_assumption) rfl ?_)
    | (refine Is_store ?_; refine G_store rfl rfl rfl rfl rfl ?_)
    | (refine Is_builtin ?_; first
      | refine G_len rfl rfl ?_)
    | (refine Is_nilCheck ?_; refine G_nilCheck rfl rfl ?_)
    | (refine Is_convert ?_; first
      | refine G_u64_int rfl rfl ?_
      | refine G_to_u64 rfl rfl ?_
      | refine G_conv _ rfl rfl (by first | exact IntWalk.i64_in _ (by omega) | rfl) ?_)
    | (refine Is_fieldAddr ?_; refine G_fieldOff rfl rfl ?_)
    | (refine Is_indexAddr ?_; refine G_indexA rfl rfl (by first | decide | omega) rfl ?_)
    | (refine Is_un ?_; refine G_not rfl rfl ?_)
    | (refine Is_makeFunc ?_; refine G_makeFunc rfl rfl rfl ?_)
    | (refine Is_extract ?_; refine G_extract rfl rfl rfl ?_)
    | (refine Is_guard ?_; first
      | refine G_guard_yes (by rw [hops.eq]; rfl) rfl (by simp) ?_
      | refine G_guard_no (by rw [hops.eq]; rfl) rfl rfl rfl ?_)
    | (refine Is_pick ?_; first
      | refine G_pick_t rfl rfl rfl ?_
      | refine G_pick_f rfl rfl rfl ?_)
    | refine GC_cond_t rfl ?_
    | refine GC_cond_f rfl ?_
    | refine GC_seq ?_
    | refine GC_region (fun ops hops => ?_)
    | (refine G_nil ?_; try clear hops; try clear ops)
    | refine At_then ?_
    | refine GC_skip ?_
    | refine GC_block ?_
    | refine GC_exit ?_
    | refine GC_ret ?_
    | refine At_then_exit ?_
    | refine At_then_ret ?_
    | refine At_block ?_
    | refine At_block_ret ?_
    | refine At_block_hit ?_
    | refine At_block_miss rfl ?_
    | refine At_round_exit ?_
    | refine At_round_ret ?_)
      refine G_call rfl (fun w1 hw1 => dig_Bytes _ bs w1 (hO.now w1 hw1)) rfl ?_
      repeat (first
    | (refine Is_move ?_; refine G_move rfl rfl ?_)
    | (refine Is_assign ?_; refine G_assign rfl rfl ?_)
    | (refine Is_bin ?_; first
      | refine G_lss_t rfl rfl (by omega) rfl ?_
      | refine G_lss_f rfl rfl (by omega) rfl ?_
      | refine G_lss rfl rfl rfl ?_
      | refine G_add rfl rfl rfl (by first | exact IntWalk.i64_in _ (by omega) | rfl) ?_
      | refine G_eql_t rfl rfl (by first | with_reducible rfl | assumption | decide +kernel | omega) rfl ?_
      | refine G_eql_f rfl rfl (by first | decide +kernel | omega | assumption) rfl ?_
      | refine G_eql rfl rfl rfl ?_
      | refine G_neq_f rfl rfl (by first | with_reducible rfl | assumption | decide +kernel | omega) rfl ?_
      | refine G_neq_t rfl rfl (by first | decide +kernel | omega | assumption) rfl ?_
      | refine G_neq rfl rfl rfl ?_
      | refine G_leq_t rfl rfl (by omega) rfl ?_
      | refine G_leq_f rfl rfl (by omega) rfl ?_
      | refine G_leq rfl rfl rfl ?_
      | refine G_gtr_t rfl rfl (by omega) rfl ?_
      | refine G_gtr_f rfl rfl (by omega) rfl ?_
      | refine G_gtr rfl rfl rfl ?_
      | refine G_geq_t rfl rfl (by omega) rfl ?_
      | refine G_geq_f rfl rfl (by omega) rfl ?_
      | refine G_geq rfl rfl rfl ?_
      | refine G_sub rfl rfl rfl (by first | exact IntWalk.i64_in _ (by omega) | rfl) ?_
      | refine G_mul rfl rfl rfl (by first | exact IntWalk.i64_in _ (by omega) | rfl) ?_
      | refine G_xor64 rfl rfl rfl ?_
      | refine G_mul64 rfl rfl rfl ?_
      | refine G_or64 rfl rfl rfl ?_
      | refine G_and64 rfl rfl rfl ?_
      | refine G_add64 rfl rfl rfl ?_
      | refine G_sub64 rfl rfl rfl ?_
      | refine G_shr64 rfl rfl rfl rfl ?_
      | refine G_shl64 rfl rfl rfl rfl ?_
      | refine G_eqlB rfl rfl rfl ?_
      | refine G_neqB rfl rfl rfl ?_)
    | (refine Is_load ?_; first
      | refine G_load rfl rfl rfl ?_
      | refine G_load_cell rfl (by first | assumption | apply_assumption) rfl ?_)
    | (refine Is_store ?_; refine G_store rfl rfl rfl rfl rfl ?_)
    | (refine Is_builtin ?_; first
      | refine G_len rfl rfl ?_)
    | (refine Is_nilCheck ?_; refine G_nilCheck rfl rfl ?_)
    | (refine Is_convert ?_; first
      | refine G_u64_int rfl rfl ?_
      | refine G_to_u64 rfl rfl ?_
      | refine G_conv _ rfl rfl (by first | exact IntWalk.i64_in _ (by omega) | rfl) ?_)
    | (refine Is_fieldAddr ?_; refine G_fieldOff rfl rfl ?_)
    | (refine Is_indexAddr ?_; refine G_indexA rfl rfl (by first | decide | omega) rfl ?_)
    | (refine Is_un ?_; refine G_not rfl rfl ?_)
    | (refine Is_makeFunc ?_; refine G_makeFunc rfl rfl rfl ?_)
    | (refine Is_extract ?_; refine G_extract rfl rfl rfl ?_)
    | (refine Is_guard ?_; first
      | refine G_guard_yes (by rw [hops.eq]; rfl) rfl (by simp) ?_
      | refine G_guard_no (by rw [hops.eq]; rfl) rfl rfl rfl ?_)
    | (refine Is_pick ?_; first
      | refine G_pick_t rfl rfl rfl ?_
      | refine G_pick_f rfl rfl rfl ?_)
    | refine GC_cond_t rfl ?_
    | refine GC_cond_f rfl ?_
    | refine GC_seq ?_
    | refine GC_region (fun ops hops => ?_)
    | (refine G_nil ?_; try clear hops; try clear ops)
    | refine At_then ?_
    | refine GC_skip ?_
    | refine GC_block ?_
    | refine GC_exit ?_
    | refine GC_ret ?_
    | refine At_then_exit ?_
    | refine At_then_ret ?_
    | refine At_block ?_
    | refine At_block_ret ?_
    | refine At_block_hit ?_
    | refine At_block_miss rfl ?_
    | refine At_round_exit ?_
    | refine At_round_ret ?_)
      exact ret_one rfl rfl fun w' h' => ⟨rfl, h'.drop (by simp)⟩
end Go.Proofs.Ytcmjfmofaligfaa
