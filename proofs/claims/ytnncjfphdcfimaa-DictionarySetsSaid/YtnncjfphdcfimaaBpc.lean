/- Bitpack: widths; the least and the greatest element. -/
import Derived.Test.YtnncjfphdcfimaaBpb
set_option linter.unusedVariables false
set_option linter.unusedSimpArgs false
set_option maxRecDepth 100000
set_option maxHeartbeats 4000000
namespace Go.Proofs.Ytnncjfphdcfimaa
open Go.RowKit
attribute [local irreducible] G GC At wpL DR XPost CPost Cut GA GAR GAX GAt NxA GH GHR NxH

/-- how many binary digits -/
def blen (n : Nat) : Nat := if n = 0 then 0 else blen (n / 2) + 1
termination_by n
decreasing_by omega

theorem blen_zero : blen 0 = 0 := by rw [blen, if_pos rfl]
theorem blen_pos {n : Nat} (h : ¬ n = 0) : blen n = blen (n / 2) + 1 := by rw [blen, if_neg h]
theorem lt_blen : ∀ n : Nat, n < 2 ^ blen n := by
  intro n
  induction n using Nat.strongRecOn with
  | _ n ih =>
    by_cases h : n = 0
    · subst h; rw [blen_zero]; decide
    · rw [blen_pos h, Nat.pow_succ]
      have := ih (n / 2) (by omega)
      omega
theorem le_of_blen : ∀ n : Nat, ¬ n = 0 → 2 ^ (blen n - 1) ≤ n := by
  intro n
  induction n using Nat.strongRecOn with
  | _ n ih =>
    intro h
    rw [blen_pos h, Nat.add_sub_cancel]
    by_cases h2 : n / 2 = 0
    · rw [h2, blen_zero]; simp; omega
    · have := ih (n / 2) (by omega) h2
      have e : blen (n / 2) = blen (n / 2) - 1 + 1 := by
        have : ¬ blen (n / 2) = 0 := by rw [blen_pos h2]; omega
        omega
      rw [e, Nat.pow_succ]
      omega
theorem blen_le {n k : Nat} (h : n < 2 ^ k) : blen n ≤ k := by
  by_cases h0 : n = 0
  · subst h0; rw [blen_zero]; omega
  · have h1 := le_of_blen n h0
    have : blen n - 1 < k := by
      rcases Nat.lt_or_ge (blen n - 1) k with h2 | h2
      · exact h2
      · have := Nat.pow_le_pow_right (show 0 < 2 by omega) h2
        omega
    omega
theorem blen_64 (u : BitVec 64) : blen u.toNat ≤ 64 := blen_le u.isLt
theorem blen_shift (n k : Nat) (h : 2 ^ k ≤ n) : blen n = blen (n / 2 ^ k) + k := by
  induction k generalizing n with
  | zero => simp
  | succ k ih =>
    have hp : 0 < 2 ^ k := Nat.pow_pos (by omega)
    rw [Nat.pow_succ] at h
    have h0 : ¬ n = 0 := by omega
    rw [blen_pos h0, ih (n / 2) (by omega), Nat.div_div_eq_div_mul, Nat.pow_succ, Nat.mul_comm 2]
    omega

theorem blen_eq {n t : Nat} (h0 : 0 < t) (h1 : 2 ^ (t - 1) ≤ n) (h2 : n < 2 ^ t) : blen n = t := by
  have hp : 0 < 2 ^ (t - 1) := Nat.pow_pos (by omega)
  have a := le_of_blen n (by omega)
  have b := blen_le h2
  have c := lt_blen n
  rcases Nat.lt_or_ge (blen n) t with h | h
  · have := Nat.pow_le_pow_right (show 0 < 2 by omega) (show blen n ≤ t - 1 by omega)
    omega
  · omega
def tabOK (l : List UInt8) : Bool := (List.range 256).all fun j => if j = 0 then (byteAt l j).toNat == 0 else (Nat.blt 0 (byteAt l j).toNat && Nat.ble (2 ^ ((byteAt l j).toNat - 1)) j && Nat.blt j (2 ^ (byteAt l j).toNat))
theorem tab_at {l : List UInt8} (h : tabOK l = true) {j : Nat} (hj : j < 256) : (byteAt l j).toNat = blen j := by
  have := List.all_eq_true.1 h j (List.mem_range.2 hj)
  split at this
  · rename_i h0
    subst h0
    rw [blen_zero]
    exact beq_iff_eq.1 this
  · simp only [Bool.and_eq_true, Nat.blt_eq, Nat.ble_eq] at this
    exact (blen_eq this.1.1 this.1.2 this.2).symm
theorem low_small {x : BitVec 64} (h : x.toNat < 256) : (x.setWidth 8).toNat = x.toNat := by rw [BitVec.toNat_setWidth]; omega
theorem shr_toNat (u : BitVec 64) (k : Nat) : (u >>> k).toNat = u.toNat / 2 ^ k := by rw [BitVec.toNat_ushiftRight, Nat.shiftRight_eq_div_pow]
set_option maxRecDepth 1000000 in
theorem lib_Len64 (w : World) (u : BitVec 64) : Calls Try.prog 59 #[U u] w (Is w (I (blen u.toNat))) := by
  have hu := u.isLt
  have s32 := shr_toNat u 32
  have s16 := shr_toNat u 16
  have s8 := shr_toNat u 8
  have t16 := shr_toNat (u >>> 32) 16
  have t8 := shr_toNat (u >>> 32) 8
  have r8 := shr_toNat (u >>> 16) 8
  have q8 := shr_toNat (u >>> 32 >>> 16) 8
  have b32 := blen_shift u.toNat 32
  have b16 := blen_shift u.toNat 16
  have b8 := blen_shift u.toNat 8
  have c16 := blen_shift (u.toNat / 2 ^ 32) 16
  have c8 := blen_shift (u.toNat / 2 ^ 32) 8
  have d8 := blen_shift (u.toNat / 2 ^ 16) 8
  have e8 := blen_shift (u.toNat / 2 ^ 32 / 2 ^ 16) 8
  refine enter (N := 25) (args := [U u]) Try.func59 rfl rfl rfl (St.refl w) ?_
  repeat' (first
  | refine G_nilC ?_
  | refine G_nilN ?_
  | refine G_nilH ?_
  | (refine G_nil ?_; try clear ri_; try clear ops_)
  | (refine V_op ?_; first | exact True.intro | (intro v_ h_ w_ r_ t_; try (obtain ⟨ta_, tb_⟩ := (t_ : _ ∧ _)); try (obtain ⟨tb_, tc_⟩ := (tb_ : _ ∧ _)); try (obtain ⟨tc_, td_⟩ := (tc_ : _ ∧ _)); try (obtain ⟨td_, te_⟩ := (td_ : _ ∧ _))) | intro (ops_ : Array Oper) ri_ | intro (b_ : Bool) hb_ | (intro v_ h_; try (have o_ := FrzK.one h_)) | intro (v_ : Value) | intro (b_ : Nat) | (refine ⟨fun hc => ?_, fun hc => ?_⟩ <;> try (exfalso; omega)) | refine ⟨?_, ?_⟩ | intro _ | skip)
  | (refine Is_DQ ?_; first | (apply DQ_m rfl rfl rfl rfl; focus (intro wq_ Oq_ rq_ mm; (repeat (first | (refine G_nil ?_; exact X_done rfl (List.Sublist.refl _)) | refine V_op ?_)); done)) | (apply DQ_k rfl rfl rfl rfl; intro wq_ Oq_ rq_ mm) | (apply DQ_y rfl rfl rfl rfl; intro wq_ Oq_ rq_ mm)))
  all_goals
    refine G_strIdx rfl rfl rfl ?_ (hs := ⟨trivial, Nat.lt_of_lt_of_eq (BitVec.isLt _) (by kernel_rfl)⟩)
    rw [low_small (by omega)]
    repeat' (first
  | refine G_nilC ?_
  | refine G_nilN ?_
  | refine G_nilH ?_
  | (refine G_nil ?_; try clear ri_; try clear ops_)
  | (refine V_op ?_; first | exact True.intro | (intro v_ h_ w_ r_ t_; try (obtain ⟨ta_, tb_⟩ := (t_ : _ ∧ _)); try (obtain ⟨tb_, tc_⟩ := (tb_ : _ ∧ _)); try (obtain ⟨tc_, td_⟩ := (tc_ : _ ∧ _)); try (obtain ⟨td_, te_⟩ := (td_ : _ ∧ _))) | intro (ops_ : Array Oper) ri_ | intro (b_ : Bool) hb_ | (intro v_ h_; try (have o_ := FrzK.one h_)) | intro (v_ : Value) | intro (b_ : Nat) | (refine ⟨fun hc => ?_, fun hc => ?_⟩ <;> try (exfalso; omega)) | refine ⟨?_, ?_⟩ | intro _ | skip)
  | (refine Is_DQ ?_; first | (apply DQ_m rfl rfl rfl rfl; focus (intro wq_ Oq_ rq_ mm; (repeat (first | (refine G_nil ?_; exact X_done rfl (List.Sublist.refl _)) | refine V_op ?_)); done)) | (apply DQ_k rfl rfl rfl rfl; intro wq_ Oq_ rq_ mm) | (apply DQ_y rfl rfl rfl rfl; intro wq_ Oq_ rq_ mm)))
    rw [tab_at (by kernel_rfl) (by omega)]
    refine ret_ rfl (by repeat (first | exact ResAll.nil | (apply ResAll.cons; first | exact .tmp rfl | exact .cell rfl rfl | exact .one rfl))) fun w' h' => ?_
    refine .mk ?_ h'
    simp only [retV, s32, s16, s8, t16, t8, r8, q8]
    refine congrArg (fun n : Int => Ending.returned (I n)) ?_
    omega
section
variable {w0 : World} {O : List Nat} {m : List As}
instance (u : BitVec 64) : CallV Try.prog w0 O m 59 [U u] True (I (blen u.toNat)) := ⟨fun _ w _ => lib_Len64 w u⟩
end

def lmin : List Int → Int
  | [] => 0
  | x :: r => r.foldl min x
def lmax : List Int → Int
  | [] => 0
  | x :: r => r.foldl max x
theorem foldl_snoc (f : Int → Int → Int) (x : Int) (r : List Int) (k : Nat) (h : k < r.length) : (r.take (k + 1)).foldl f x = f ((r.take k).foldl f x) r[k] := by
  rw [List.take_succ_eq_append_getElem h, List.foldl_append]; rfl
theorem lmin_take {l : List Int} {k : Nat} (h0 : 0 < k) (h : k < l.length) : lmin (l.take (k + 1)) = min (lmin (l.take k)) l[k] := by
  cases l with
  | nil => simp at h
  | cons x r =>
    obtain ⟨k, rfl⟩ : ∃ j, k = j + 1 := ⟨k - 1, by omega⟩
    exact foldl_snoc min x r k (by simpa using h)
theorem lmax_take {l : List Int} {k : Nat} (h0 : 0 < k) (h : k < l.length) : lmax (l.take (k + 1)) = max (lmax (l.take k)) l[k] := by
  cases l with
  | nil => simp at h
  | cons x r =>
    obtain ⟨k, rfl⟩ : ∃ j, k = j + 1 := ⟨k - 1, by omega⟩
    exact foldl_snoc max x r k (by simpa using h)
theorem lmin_one {l : List Int} (h : 0 < l.length) : lmin (l.take 1) = l[0] := by
  cases l with
  | nil => simp at h
  | cons x r => rfl
theorem lmax_one {l : List Int} (h : 0 < l.length) : lmax (l.take 1) = l[0] := by
  cases l with
  | nil => simp at h
  | cons x r => rfl

section
variable {w0 : World} {O : List Nat} {m : List As}
end
end Go.Proofs.Ytnncjfphdcfimaa
