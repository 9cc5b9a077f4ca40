/- Contracts: the steps of digests. -/
import Derived.Test.YtdngfkmigpnbnaaFacts
set_option linter.unusedVariables false
set_option linter.unusedSimpArgs false
set_option maxRecDepth 100000
set_option maxHeartbeats 4000000
namespace Go.Proofs.Ytdngfkmigpnbnaa
open Go.RowKit
attribute [local irreducible] G GC At wpL DR XPost CPost Cut GA GAR GAX GAt NxA GH GHR NxH

def stepB (h w : BitVec 64) : BitVec 64 := let a := (h ^^^ w) * 0xd6e8feb86659fd93#64; (a ^^^ a >>> 32) * 0xa0761d6478bd642f#64

theorem ref_Step (h x : BitVec 64) (w : World) : Calls Try.prog 63 #[U h, U x] w (Is w (U (stepB h x))) := by
  refine enter (N := 17) (args := [U h, U x]) Try.func63 rfl rfl rfl (St.refl w) ?_
  repeat (first
    | (refine Is_move ?_; refine G_move rfl rfl ?_)
    | (refine Is_assign ?_; refine G_assign rfl rfl ?_)
    | (refine Is_bin ?_; first
      | refine G_lss rfl rfl rfl ?_
      | refine G_add rfl rfl rfl (by first | exact IntWalk.i64_in _ (by omega) | rfl) ?_
      | refine G_eql rfl rfl rfl ?_
      | refine G_neq rfl rfl rfl ?_
      | refine G_leq rfl rfl rfl ?_
      | refine G_gtr rfl rfl rfl ?_
      | refine G_geq rfl rfl rfl ?_
      | refine G_sub rfl rfl rfl (by first | exact IntWalk.i64_in _ (by omega) | rfl) ?_
      | refine G_mul rfl rfl rfl (by first | exact IntWalk.i64_in _ (by omega) | rfl) ?_
      | refine G_xor64 rfl rfl rfl ?_
      | refine G_mul64 rfl rfl rfl ?_
      | refine G_or64 rfl rfl rfl ?_
      | refine G_and64 rfl rfl rfl ?_
      | refine G_add64 rfl rfl rfl ?_
      | refine G_sub64 rfl rfl rfl ?_
      | refine G_shr64 rfl rfl rfl rfl ?_
      | refine G_shl64 rfl rfl rfl rfl ?_)
    | (refine Is_load ?_; first
      | refine G_load rfl rfl rfl ?_
      | refine G_load_cell rfl (by first | assumption | (apply_assumption; done) | fail) rfl ?_)
    | (refine Is_store ?_; refine G_store rfl rfl rfl rfl rfl ?_)
    | (refine Is_builtin ?_; first
      | refine G_len rfl rfl ?_)
    | (refine Is_nilCheck ?_; refine G_nilCheck rfl rfl ?_)
    | (refine Is_convert ?_; first
      | refine G_u64_int rfl rfl ?_
      | refine G_to_u64 rfl rfl ?_
      | refine G_conv _ rfl rfl (by first | exact IntWalk.i64_in _ (by omega) | rfl) ?_)
    | (refine Is_fieldAddr ?_; refine G_fieldOff rfl rfl ?_)
    | (refine Is_indexAddr ?_; first
      | refine G_indexA rfl rfl (by first | decide | omega) rfl ?_
      | refine G_indexP rfl rfl (by first | assumption | omega) rfl ?_)
    | (refine Is_un ?_; refine G_not rfl rfl ?_)
    | (refine Is_makeFunc ?_; refine G_makeFunc rfl rfl rfl ?_)
    | (refine Is_extract ?_; refine G_extract rfl rfl rfl ?_)
    | refine GC_seq ?_
    | refine GC_region (fun ops hops => ?_)
    | (refine G_nil ?_; try clear hops; try clear ops)
    | refine At_then ?_
    | refine GC_skip ?_
    | refine GC_block ?_
    | refine GC_exit ?_
    | refine GC_ret ?_
    | refine At_then_exit ?_
    | refine At_then_ret ?_
    | refine At_block ?_
    | refine At_block_ret ?_
    | refine At_block_hit ?_
    | refine At_block_miss rfl ?_
    | refine At_round_exit ?_
    | refine At_round_ret ?_)
  exact ret_one rfl rfl fun w' h' => ⟨rfl, h'⟩

def foldB (h : BitVec 64) (l : List (BitVec 64)) : BitVec 64 := l.foldl stepB h

theorem foldB_take (h : BitVec 64) (xs : List (BitVec 64)) (k : Nat) (hk : k < xs.length) : foldB h (xs.take (k + 1)) = stepB (foldB h (xs.take k)) xs[k] := by
  rw [List.take_succ_eq_append_getElem hk, foldB, List.foldl_append]; rfl

/-- The method that makes the steps: the digest lies in a block of one cell. -/
theorem add_any (b : Nat) (h : BitVec 64) (v : Value) (xs : List (BitVec 64)) (w : World) (hb : w.heap[b]? = some (.cells #[U h] 92)) (hv : RdO w [b] v 1 (xs.map U)) :
    Calls Try.prog 59 #[.pointer (some ⟨b, 0, none⟩), v] w
      (Ret w [b] (fun _ : Unit => True) (fun _ => .tuple #[]) (fun _ => [.box b (.cells #[U (foldB h xs)] 92)])) := by
  obtain ⟨A, n, c, rfl, h1, h2, h3, h4⟩ := hv.rd
  have hn : xs.length = n := by simpa using h1
  unfold maxLen at h3
  refine enter (N := 27) (args := [.pointer (some ⟨b, 0, none⟩), .slice A n c]) (O := [b]) (m := [.box b (.cells #[U h] 92)]) Try.func59 rfl rfl rfl (St.one hb) ?_
  repeat (first
    | (refine Is_move ?_; refine G_move rfl rfl ?_)
    | (refine Is_assign ?_; refine G_assign rfl rfl ?_)
    | (refine Is_bin ?_; first
      | refine G_lss rfl rfl rfl ?_
      | refine G_add rfl rfl rfl (by first | exact IntWalk.i64_in _ (by omega) | rfl) ?_
      | refine G_eql rfl rfl rfl ?_
      | refine G_neq rfl rfl rfl ?_
      | refine G_leq rfl rfl rfl ?_
      | refine G_gtr rfl rfl rfl ?_
      | refine G_geq rfl rfl rfl ?_
      | refine G_sub rfl rfl rfl (by first | exact IntWalk.i64_in _ (by omega) | rfl) ?_
      | refine G_mul rfl rfl rfl (by first | exact IntWalk.i64_in _ (by omega) | rfl) ?_
      | refine G_xor64 rfl rfl rfl ?_
      | refine G_mul64 rfl rfl rfl ?_
      | refine G_or64 rfl rfl rfl ?_
      | refine G_and64 rfl rfl rfl ?_
      | refine G_add64 rfl rfl rfl ?_
      | refine G_sub64 rfl rfl rfl ?_
      | refine G_shr64 rfl rfl rfl rfl ?_
      | refine G_shl64 rfl rfl rfl rfl ?_)
    | (refine Is_load ?_; first
      | refine G_load rfl rfl rfl ?_
      | refine G_load_cell rfl (by first | assumption | (apply_assumption; done) | fail) rfl ?_)
    | (refine Is_store ?_; refine G_store rfl rfl rfl rfl rfl ?_)
    | (refine Is_builtin ?_; first
      | refine G_len rfl rfl ?_)
    | (refine Is_nilCheck ?_; refine G_nilCheck rfl rfl ?_)
    | (refine Is_convert ?_; first
      | refine G_u64_int rfl rfl ?_
      | refine G_to_u64 rfl rfl ?_
      | refine G_conv _ rfl rfl (by first | exact IntWalk.i64_in _ (by omega) | rfl) ?_)
    | (refine Is_fieldAddr ?_; refine G_fieldOff rfl rfl ?_)
    | (refine Is_indexAddr ?_; first
      | refine G_indexA rfl rfl (by first | decide | omega) rfl ?_
      | refine G_indexP rfl rfl (by first | assumption | omega) rfl ?_)
    | (refine Is_un ?_; refine G_not rfl rfl ?_)
    | (refine Is_makeFunc ?_; refine G_makeFunc rfl rfl rfl ?_)
    | (refine Is_extract ?_; refine G_extract rfl rfl rfl ?_)
    | refine GC_seq ?_
    | refine GC_region (fun ops hops => ?_)
    | (refine G_nil ?_; try clear hops; try clear ops)
    | refine At_then ?_
    | refine GC_skip ?_
    | refine GC_block ?_
    | refine GC_exit ?_
    | refine GC_ret ?_
    | refine At_then_exit ?_
    | refine At_then_ret ?_
    | refine At_block ?_
    | refine At_block_ret ?_
    | refine At_block_hit ?_
    | refine At_block_miss rfl ?_
    | refine At_round_exit ?_
    | refine At_round_ret ?_)
  refine GC_loop' (X := Nat) (fun k => k ≤ n) (fun k => [(7, .slice A n c), (8, I n), (9, I k), (0, .pointer (some ⟨b, 0, none⟩))]) (fun k => [.box b (.cells #[U (foldB h (xs.take k))] 92)]) (fun k => n - k) 0 (Nat.zero_le _) ⟨rfl, rfl, rfl, rfl, trivial⟩ (fun w h => h) ?_
  intro k hk
  repeat (first
    | (refine Is_move ?_; refine G_move rfl rfl ?_)
    | (refine Is_assign ?_; refine G_assign rfl rfl ?_)
    | (refine Is_bin ?_; first
      | refine G_lss rfl rfl rfl ?_
      | refine G_add rfl rfl rfl (by first | exact IntWalk.i64_in _ (by omega) | rfl) ?_
      | refine G_eql rfl rfl rfl ?_
      | refine G_neq rfl rfl rfl ?_
      | refine G_leq rfl rfl rfl ?_
      | refine G_gtr rfl rfl rfl ?_
      | refine G_geq rfl rfl rfl ?_
      | refine G_sub rfl rfl rfl (by first | exact IntWalk.i64_in _ (by omega) | rfl) ?_
      | refine G_mul rfl rfl rfl (by first | exact IntWalk.i64_in _ (by omega) | rfl) ?_
      | refine G_xor64 rfl rfl rfl ?_
      | refine G_mul64 rfl rfl rfl ?_
      | refine G_or64 rfl rfl rfl ?_
      | refine G_and64 rfl rfl rfl ?_
      | refine G_add64 rfl rfl rfl ?_
      | refine G_sub64 rfl rfl rfl ?_
      | refine G_shr64 rfl rfl rfl rfl ?_
      | refine G_shl64 rfl rfl rfl rfl ?_)
    | (refine Is_load ?_; first
      | refine G_load rfl rfl rfl ?_
      | refine G_load_cell rfl (by first | assumption | (apply_assumption; done) | fail) rfl ?_)
    | (refine Is_store ?_; refine G_store rfl rfl rfl rfl rfl ?_)
    | (refine Is_builtin ?_; first
      | refine G_len rfl rfl ?_)
    | (refine Is_nilCheck ?_; refine G_nilCheck rfl rfl ?_)
    | (refine Is_convert ?_; first
      | refine G_u64_int rfl rfl ?_
      | refine G_to_u64 rfl rfl ?_
      | refine G_conv _ rfl rfl (by first | exact IntWalk.i64_in _ (by omega) | rfl) ?_)
    | (refine Is_fieldAddr ?_; refine G_fieldOff rfl rfl ?_)
    | (refine Is_indexAddr ?_; first
      | refine G_indexA rfl rfl (by first | decide | omega) rfl ?_
      | refine G_indexP rfl rfl (by first | assumption | omega) rfl ?_)
    | (refine Is_un ?_; refine G_not rfl rfl ?_)
    | (refine Is_makeFunc ?_; refine G_makeFunc rfl rfl rfl ?_)
    | (refine Is_extract ?_; refine G_extract rfl rfl rfl ?_)
    | refine GC_seq ?_
    | refine GC_region (fun ops hops => ?_)
    | (refine G_nil ?_; try clear hops; try clear ops)
    | refine At_then ?_
    | refine GC_skip ?_
    | refine GC_block ?_
    | refine GC_exit ?_
    | refine GC_ret ?_
    | refine At_then_exit ?_
    | refine At_then_ret ?_
    | refine At_block ?_
    | refine At_block_ret ?_
    | refine At_block_hit ?_
    | refine At_block_miss rfl ?_
    | refine At_round_exit ?_
    | refine At_round_ret ?_)
  refine GC_cond_dec rfl (fun hlt => ?_) (fun hge => ?_)
  · have hlt' : k < xs.length := by omega
    repeat (first
    | (refine Is_move ?_; refine G_move rfl rfl ?_)
    | (refine Is_assign ?_; refine G_assign rfl rfl ?_)
    | (refine Is_bin ?_; first
      | refine G_lss rfl rfl rfl ?_
      | refine G_add rfl rfl rfl (by first | exact IntWalk.i64_in _ (by omega) | rfl) ?_
      | refine G_eql rfl rfl rfl ?_
      | refine G_neq rfl rfl rfl ?_
      | refine G_leq rfl rfl rfl ?_
      | refine G_gtr rfl rfl rfl ?_
      | refine G_geq rfl rfl rfl ?_
      | refine G_sub rfl rfl rfl (by first | exact IntWalk.i64_in _ (by omega) | rfl) ?_
      | refine G_mul rfl rfl rfl (by first | exact IntWalk.i64_in _ (by omega) | rfl) ?_
      | refine G_xor64 rfl rfl rfl ?_
      | refine G_mul64 rfl rfl rfl ?_
      | refine G_or64 rfl rfl rfl ?_
      | refine G_and64 rfl rfl rfl ?_
      | refine G_add64 rfl rfl rfl ?_
      | refine G_sub64 rfl rfl rfl ?_
      | refine G_shr64 rfl rfl rfl rfl ?_
      | refine G_shl64 rfl rfl rfl rfl ?_)
    | (refine Is_load ?_; first
      | refine G_load rfl rfl rfl ?_
      | refine G_load_cell rfl (by first | assumption | (apply_assumption; done) | fail) rfl ?_)
    | (refine Is_store ?_; refine G_store rfl rfl rfl rfl rfl ?_)
    | (refine Is_builtin ?_; first
      | refine G_len rfl rfl ?_)
    | (refine Is_nilCheck ?_; refine G_nilCheck rfl rfl ?_)
    | (refine Is_convert ?_; first
      | refine G_u64_int rfl rfl ?_
      | refine G_to_u64 rfl rfl ?_
      | refine G_conv _ rfl rfl (by first | exact IntWalk.i64_in _ (by omega) | rfl) ?_)
    | (refine Is_fieldAddr ?_; refine G_fieldOff rfl rfl ?_)
    | (refine Is_indexAddr ?_; first
      | refine G_indexA rfl rfl (by first | decide | omega) rfl ?_
      | refine G_indexP rfl rfl (by first | assumption | omega) rfl ?_)
    | (refine Is_un ?_; refine G_not rfl rfl ?_)
    | (refine Is_makeFunc ?_; refine G_makeFunc rfl rfl rfl ?_)
    | (refine Is_extract ?_; refine G_extract rfl rfl rfl ?_)
    | refine GC_seq ?_
    | refine GC_region (fun ops hops => ?_)
    | (refine G_nil ?_; try clear hops; try clear ops)
    | refine At_then ?_
    | refine GC_skip ?_
    | refine GC_block ?_
    | refine GC_exit ?_
    | refine GC_ret ?_
    | refine At_then_exit ?_
    | refine At_then_ret ?_
    | refine At_block ?_
    | refine At_block_ret ?_
    | refine At_block_hit ?_
    | refine At_block_miss rfl ?_
    | refine At_round_exit ?_
    | refine At_round_ret ?_)
    refine G_index_old rfl rfl hv hlt' rfl ?_
    intro ad had
    repeat (first
    | (refine Is_move ?_; refine G_move rfl rfl ?_)
    | (refine Is_assign ?_; refine G_assign rfl rfl ?_)
    | (refine Is_bin ?_; first
      | refine G_lss rfl rfl rfl ?_
      | refine G_add rfl rfl rfl (by first | exact IntWalk.i64_in _ (by omega) | rfl) ?_
      | refine G_eql rfl rfl rfl ?_
      | refine G_neq rfl rfl rfl ?_
      | refine G_leq rfl rfl rfl ?_
      | refine G_gtr rfl rfl rfl ?_
      | refine G_geq rfl rfl rfl ?_
      | refine G_sub rfl rfl rfl (by first | exact IntWalk.i64_in _ (by omega) | rfl) ?_
      | refine G_mul rfl rfl rfl (by first | exact IntWalk.i64_in _ (by omega) | rfl) ?_
      | refine G_xor64 rfl rfl rfl ?_
      | refine G_mul64 rfl rfl rfl ?_
      | refine G_or64 rfl rfl rfl ?_
      | refine G_and64 rfl rfl rfl ?_
      | refine G_add64 rfl rfl rfl ?_
      | refine G_sub64 rfl rfl rfl ?_
      | refine G_shr64 rfl rfl rfl rfl ?_
      | refine G_shl64 rfl rfl rfl rfl ?_)
    | (refine Is_load ?_; first
      | refine G_load rfl rfl rfl ?_
      | refine G_load_cell rfl (by first | assumption | (apply_assumption; done) | fail) rfl ?_)
    | (refine Is_store ?_; refine G_store rfl rfl rfl rfl rfl ?_)
    | (refine Is_builtin ?_; first
      | refine G_len rfl rfl ?_)
    | (refine Is_nilCheck ?_; refine G_nilCheck rfl rfl ?_)
    | (refine Is_convert ?_; first
      | refine G_u64_int rfl rfl ?_
      | refine G_to_u64 rfl rfl ?_
      | refine G_conv _ rfl rfl (by first | exact IntWalk.i64_in _ (by omega) | rfl) ?_)
    | (refine Is_fieldAddr ?_; refine G_fieldOff rfl rfl ?_)
    | (refine Is_indexAddr ?_; first
      | refine G_indexA rfl rfl (by first | decide | omega) rfl ?_
      | refine G_indexP rfl rfl (by first | assumption | omega) rfl ?_)
    | (refine Is_un ?_; refine G_not rfl rfl ?_)
    | (refine Is_makeFunc ?_; refine G_makeFunc rfl rfl rfl ?_)
    | (refine Is_extract ?_; refine G_extract rfl rfl rfl ?_)
    | refine GC_seq ?_
    | refine GC_region (fun ops hops => ?_)
    | (refine G_nil ?_; try clear hops; try clear ops)
    | refine At_then ?_
    | refine GC_skip ?_
    | refine GC_block ?_
    | refine GC_exit ?_
    | refine GC_ret ?_
    | refine At_then_exit ?_
    | refine At_then_ret ?_
    | refine At_block ?_
    | refine At_block_ret ?_
    | refine At_block_hit ?_
    | refine At_block_miss rfl ?_
    | refine At_round_exit ?_
    | refine At_round_ret ?_)
    refine At_round (k + 1) (by omega) (by omega) ⟨rfl, rfl, rfl, rfl, trivial⟩ (fun w1 hw1 => ?_)
    rw [foldB_take h xs k hlt']
    exact hw1
  · repeat (first
    | (refine Is_move ?_; refine G_move rfl rfl ?_)
    | (refine Is_assign ?_; refine G_assign rfl rfl ?_)
    | (refine Is_bin ?_; first
      | refine G_lss rfl rfl rfl ?_
      | refine G_add rfl rfl rfl (by first | exact IntWalk.i64_in _ (by omega) | rfl) ?_
      | refine G_eql rfl rfl rfl ?_
      | refine G_neq rfl rfl rfl ?_
      | refine G_leq rfl rfl rfl ?_
      | refine G_gtr rfl rfl rfl ?_
      | refine G_geq rfl rfl rfl ?_
      | refine G_sub rfl rfl rfl (by first | exact IntWalk.i64_in _ (by omega) | rfl) ?_
      | refine G_mul rfl rfl rfl (by first | exact IntWalk.i64_in _ (by omega) | rfl) ?_
      | refine G_xor64 rfl rfl rfl ?_
      | refine G_mul64 rfl rfl rfl ?_
      | refine G_or64 rfl rfl rfl ?_
      | refine G_and64 rfl rfl rfl ?_
      | refine G_add64 rfl rfl rfl ?_
      | refine G_sub64 rfl rfl rfl ?_
      | refine G_shr64 rfl rfl rfl rfl ?_
      | refine G_shl64 rfl rfl rfl rfl ?_)
    | (refine Is_load ?_; first
      | refine G_load rfl rfl rfl ?_
      | refine G_load_cell rfl (by first | assumption | (apply_assumption; done) | fail) rfl ?_)
    | (refine Is_store ?_; refine G_store rfl rfl rfl rfl rfl ?_)
    | (refine Is_builtin ?_; first
      | refine G_len rfl rfl ?_)
    | (refine Is_nilCheck ?_; refine G_nilCheck rfl rfl ?_)
    | (refine Is_convert ?_; first
      | refine G_u64_int rfl rfl ?_
      | refine G_to_u64 rfl rfl ?_
      | refine G_conv _ rfl rfl (by first | exact IntWalk.i64_in _ (by omega) | rfl) ?_)
    | (refine Is_fieldAddr ?_; refine G_fieldOff rfl rfl ?_)
    | (refine Is_indexAddr ?_; first
      | refine G_indexA rfl rfl (by first | decide | omega) rfl ?_
      | refine G_indexP rfl rfl (by first | assumption | omega) rfl ?_)
    | (refine Is_un ?_; refine G_not rfl rfl ?_)
    | (refine Is_makeFunc ?_; refine G_makeFunc rfl rfl rfl ?_)
    | (refine Is_extract ?_; refine G_extract rfl rfl rfl ?_)
    | refine GC_seq ?_
    | refine GC_region (fun ops hops => ?_)
    | (refine G_nil ?_; try clear hops; try clear ops)
    | refine At_then ?_
    | refine GC_skip ?_
    | refine GC_block ?_
    | refine GC_exit ?_
    | refine GC_ret ?_
    | refine At_then_exit ?_
    | refine At_then_ret ?_
    | refine At_block ?_
    | refine At_block_ret ?_
    | refine At_block_hit ?_
    | refine At_block_miss rfl ?_
    | refine At_round_exit ?_
    | refine At_round_ret ?_)
    obtain rfl : k = n := by omega
    refine ret_none_n rfl (fun w' h' => ⟨(), trivial, rfl, ?_⟩)
    rw [← hn, List.take_length] at h'
    exact h'

/-- the digest of a list: its elements, then its length -/
def digB (h : BitVec 64) (xs : List (BitVec 64)) : BitVec 64 := stepB (foldB h xs) (BitVec.ofNat 64 xs.length)

theorem foldB_app (h : BitVec 64) (xs ys : List (BitVec 64)) : foldB h (xs ++ ys) = foldB (foldB h xs) ys := by simp [foldB]

end Go.Proofs.Ytdngfkmigpnbnaa
