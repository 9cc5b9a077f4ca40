/- Runs: the plain laws of encodings. -/
import Derived.Test.YtaegfjolemehaaaRnm
set_option linter.unusedVariables false
set_option linter.unusedSimpArgs false
set_option maxRecDepth 100000
set_option maxHeartbeats 4000000
namespace Go.Proofs.Ytaegfjolemehaaa
open Go.RowKit
attribute [local irreducible] G GC At wpL DR XPost CPost Cut GA GAR GAX GAt NxA GH GHR NxH

theorem lst_len {k : Nat} (hk : k < 4) (l : List Int) : (lst k l).length = 1 + k % 2 := by
  rcases (by omega : k = 0 ∨ k = 1 ∨ k = 2 ∨ k = 3) with rfl | rfl | rfl | rfl <;> simp [lst, lstA]
theorem lres_lst {k : Nat} {l : List Int} (hk : k < 4) (hi : okI l) (hl : l.length ≤ 4096) : lres k (lst k l) = some l := by
  have hd : (difL l).length ≤ 4096 := by rw [difL_length]; exact hl
  rcases (by omega : k = 0 ∨ k = 1 ∨ k = 2 ∨ k = 3) with rfl | rfl | rfl | rfl
  · simp [lst, lstA, lres, lresA]
  · simp [lst, lstA, lres, lresA, exp_runs hl]
  · simp [lst, lstA, lres, lresA, sum_dif hi]
  · simp [lst, lstA, lres, lresA, exp_runs hd, sum_dif hi]
theorem dcGo_lst {bs : List (BitVec 8)} {k : Nat} : ∀ (R L : List (List Int)) (off : Nat) (rest : List (BitVec 8)), (∀ x ∈ R, okI x ∧ x.length ≤ 4096) → bs.drop off = R.flatMap packB ++ rest → dcGo bs k R.length L off = dcK bs k (L ++ R) (off + (R.flatMap packB).length)
  | [], L, off, rest, _, _ => by simp [dcGo]
  | x :: R, L, off, rest, hR, hb => by
    have hx := hR x (by simp)
    rw [List.flatMap_cons, List.append_assoc] at hb
    rw [List.length_cons, dcGo, hb, unp_pack hx.1 hx.2]
    simp only
    rw [dcGo_lst R (L ++ [x]) (off + (packB x).length) rest (fun y hy => hR y (by simp [hy])) (by
      have e := congrArg (List.drop (packB x).length) hb
      rw [List.drop_drop] at e
      exact e.trans (List.drop_left' rfl))]
    simp [List.append_assoc, Nat.add_assoc]
theorem kd_byte (l : List Int) : (BitVec.ofNat 8 (kd l)).toNat = kd l := by
  have := kd_lt l
  rw [BitVec.toNat_ofNat]; omega
theorem dec_enc {l : List Int} (hi : okI l) (hl : l.length ≤ 4096) (b : List (BitVec 8)) : dcB (encB l ++ b) = .ok (l, (encB l).length) := by
  have hk := kd_lt l
  have h1 : (encB l ++ b).length ≠ 0 := by simp [encB]
  have h2 : (encB l ++ b).getD 0 0#8 = BitVec.ofNat 8 (kd l) := rfl
  have hd : (encB l ++ b).drop 1 = (lst (kd l) l).flatMap packB ++ b := by simp [encB, fB]
  have hg := dcGo_lst (bs := encB l ++ b) (k := kd l) (lst (kd l) l) [] 1 b (lst_ok hi hl) hd
  rw [lst_len hk l] at hg
  rw [dcB, if_neg h1, h2, kd_byte, if_neg (by omega), hg, List.nil_append, dcK, lres_lst hk hi hl]
  have h3 : 1 + ((lst (kd l) l).flatMap packB).length = (encB l).length := by simp [encB, fB]; omega
  simp only [h3, List.take_left', if_pos]
theorem lres_len {k : Nat} {L : List (List Int)} {l : List Int} (h : ∀ x ∈ L, x.length ≤ 4096) (he : lres k L = some l) : l.length ≤ 4096 := by
  have key : ∀ k l, lresA k L = some l → l.length ≤ 4096 := by
    intro k l he
    unfold lresA at he
    split at he
    · simp only [Option.some.injEq] at he
      subst he
      rw [List.getD_eq_getElem?_getD]
      cases hL : L[0]? with
      | none => simp
      | some x => exact h x (List.mem_of_getElem? hL)
    · split at he
      · rename_i x hx
        simp only [Option.some.injEq] at he
        subst he
        exact exp_len hx
      · cases he
  unfold lres at he
  split at he
  · cases hx : lresA (k - 2) L with
    | none => rw [hx] at he; cases he
    | some x =>
      rw [hx] at he
      simp only [Option.map_some, Option.some.injEq] at he
      subst he
      rw [sumL_length]; exact key _ _ hx
  · exact key _ _ he
theorem dcGo_inv {bs : List (BitVec 8)} {k : Nat} : ∀ (n : Nat) (L : List (List Int)) (off : Nat) (l : List Int) (o : Nat), (∀ x ∈ L, okI x ∧ x.length ≤ 4096) → off ≤ bs.length → dcGo bs k n L off = .ok (l, o) → (okI l ∧ l.length ≤ 4096) ∧ encB l = bs.take o ∧ o ≤ bs.length
  | 0, L, off, l, o, hL, ho, h => by
    rw [dcGo, dcK] at h
    split at h
    · cases h
    · rename_i x hx
      split at h
      · rename_i he
        simp only [Except.ok.injEq, Prod.mk.injEq] at h
        obtain ⟨rfl, rfl⟩ := h
        exact ⟨⟨lres_ok (fun y hy => (hL y hy).1) hx, lres_len (fun y hy => (hL y hy).2) hx⟩, he, ho⟩
      · cases h
  | n + 1, L, off, l, o, hL, ho, h => by
    rw [dcGo] at h
    split at h
    · cases h
    · rename_i x n1 hx
      have h1 := unp_canon' hx
      have h2 := unp_off hx
      refine dcGo_inv n (L ++ [x]) (off + n1) l o (fun y hy => ?_) ?_ h
      · rcases List.mem_append.1 hy with hy | hy
        · exact hL y hy
        · simp only [List.mem_singleton] at hy
          subst hy
          exact ⟨h1.1.2, h1.1.1⟩
      · have := h2.1
        rw [List.length_drop] at this
        omega
theorem dec_canon {bs : List (BitVec 8)} {l : List Int} {o : Nat} (h : dcB bs = .ok (l, o)) : (okI l ∧ l.length ≤ 4096) ∧ encB l ++ bs.drop o = bs ∧ o ≤ bs.length := by
  rw [dcB] at h
  split at h
  · cases h
  · split at h
    · cases h
    · rename_i h0 h3
      obtain ⟨h1, h2, h4⟩ := dcGo_inv _ _ _ _ _ (by simp) (by omega) h
      exact ⟨h1, by rw [h2, List.take_append_drop], h4⟩
theorem dcGo_short {bs : List (BitVec 8)} {k : Nat} : ∀ (R L : List (List Int)) (off j : Nat), (∀ x ∈ R, okI x ∧ x.length ≤ 4096) → bs.drop off = (R.flatMap packB).take j → j < (R.flatMap packB).length → dcGo bs k R.length L off = .error 7
  | [], L, off, j, _, _, h => by simp at h
  | x :: R, L, off, j, hR, hb, hj => by
    have hx := hR x (by simp)
    rw [List.flatMap_cons] at hb hj
    rw [List.length_append] at hj
    rw [List.length_cons, dcGo]
    by_cases hc : j < (packB x).length
    · rw [hb, List.take_append_of_le_length (by omega), unp_short hx.2 j hc]
    · rw [List.take_append, List.take_of_length_le (by omega)] at hb
      rw [hb, unp_pack hx.1 hx.2]
      simp only
      exact dcGo_short R (L ++ [x]) (off + (packB x).length) (j - (packB x).length) (fun y hy => hR y (by simp [hy])) (by
        have e := congrArg (List.drop (packB x).length) hb
        rw [List.drop_drop] at e
        exact e.trans (List.drop_left' rfl)) (by omega)
theorem dec_short {l : List Int} (hi : okI l) (hl : l.length ≤ 4096) {m : Nat} (hm : m < (encB l).length) : dcB ((encB l).take m) = .error 7 := by
  have hk := kd_lt l
  cases m with
  | zero => rw [dcB, if_pos (by simp)]
  | succ m =>
    have e : (encB l).take (m + 1) = BitVec.ofNat 8 (kd l) :: (fB (kd l) l).take m := rfl
    have h2 : ((encB l).take (m + 1)).getD 0 0#8 = BitVec.ofNat 8 (kd l) := rfl
    have hd : ((encB l).take (m + 1)).drop 1 = ((lst (kd l) l).flatMap packB).take m := by rw [e]; simp [fB]
    have hg := dcGo_short (k := kd l) (lst (kd l) l) [] 1 m (lst_ok hi hl) hd (by
      simp only [encB, fB, List.length_cons] at hm
      omega)
    rw [lst_len hk l] at hg
    rw [dcB, if_neg (by rw [e]; simp), h2, kd_byte, if_neg (by omega), hg]
theorem dec_err {bs : List (BitVec 8)} : ∀ {e : Int}, dcB bs = .error e → e = 5 ∨ e = 7 := by
  have go : ∀ (n k : Nat) (L : List (List Int)) (off : Nat) (e : Int), dcGo bs k n L off = .error e → e = 5 ∨ e = 7 := by
    intro n
    induction n with
    | zero =>
      intro k L off e h
      rw [dcGo, dcK] at h
      split at h
      · cases h; simp
      · split at h
        · cases h
        · cases h; simp
    | succ n ih =>
      intro k L off e h
      rw [dcGo] at h
      split at h
      · rename_i e' he
        cases h
        exact unp_err he
      · exact ih _ _ _ _ h
  intro e h
  rw [dcB] at h
  split at h
  · cases h; simp
  · split at h
    · cases h; simp
    · exact go _ _ _ _ _ h

/-! ### The kind is the least -/
theorem kd_least (l : List Int) {i : Nat} (hi : i < 4) : fS (kd l) l ≤ fS i l ∧ (i < kd l → ¬ fS i l = fS (kd l) l) := by
  have hi' : i = 0 ∨ i = 1 ∨ i = 2 ∨ i = 3 := by omega
  rw [kd_eq]
  simp only
  by_cases h1 : fS 1 l < fS 0 l
  · rw [if_pos h1]
    by_cases h2 : fS 2 l < fS 1 l
    · rw [if_pos h2]
      by_cases h3 : fS 3 l < fS 2 l
      · rw [if_pos h3]; rcases hi' with rfl | rfl | rfl | rfl <;> omega
      · rw [if_neg h3]; rcases hi' with rfl | rfl | rfl | rfl <;> omega
    · rw [if_neg h2]
      by_cases h3 : fS 3 l < fS 1 l
      · rw [if_pos h3]; rcases hi' with rfl | rfl | rfl | rfl <;> omega
      · rw [if_neg h3]; rcases hi' with rfl | rfl | rfl | rfl <;> omega
  · rw [if_neg h1]
    by_cases h2 : fS 2 l < fS 0 l
    · rw [if_pos h2]
      by_cases h3 : fS 3 l < fS 2 l
      · rw [if_pos h3]; rcases hi' with rfl | rfl | rfl | rfl <;> omega
      · rw [if_neg h3]; rcases hi' with rfl | rfl | rfl | rfl <;> omega
    · rw [if_neg h2]
      by_cases h3 : fS 3 l < fS 0 l
      · rw [if_pos h3]; rcases hi' with rfl | rfl | rfl | rfl <;> omega
      · rw [if_neg h3]; rcases hi' with rfl | rfl | rfl | rfl <;> omega
/-! ### Equal elements, equal differences -/
theorem pack_few {l : List Int} {n : Nat} (hn : l.length ≤ 2) (hw : wid l ≤ n) : (packB l).length ≤ 12 + (2 * n + 7) / 8 := by
  have h1 : (vint (BitVec.ofNat 64 l.length)).length ≤ 1 := vint_length 1 _ (by rw [BitVec.toNat_ofNat]; omega) (by omega)
  have h2 := vint_10 (zig (lmin l))
  have h3 : l.length * wid l ≤ 2 * n := Nat.mul_le_mul hn hw
  by_cases h0 : 0 < l.length
  · rw [packB_pos h0]
    simp only [List.length_append, List.length_cons, leB_length, siz]
    omega
  · obtain rfl : l = [] := List.eq_nil_of_length_eq_zero (by omega)
    rw [packB_nil]; simp; omega
theorem pack_low {l : List Int} (hn : l.length ≤ 2) (hr : ∀ x ∈ l, 1 ≤ x ∧ x ≤ 4096) : (packB l).length ≤ 7 := by
  by_cases h0 : 0 < l.length
  · have h1 : (vint (BitVec.ofNat 64 l.length)).length ≤ 1 := vint_length 1 _ (by rw [BitVec.toNat_ofNat]; omega) (by omega)
    have a := hr _ (lmin_mem h0)
    have b := hr _ (lmax_mem h0)
    have c := lmin_le _ (lmax_mem h0)
    have hz : (zig (lmin l)).toNat < 128 ^ 2 := by
      unfold zig
      rw [if_neg (by omega), BitVec.toNat_ofInt]
      omega
    have h2 : (vint (zig (lmin l))).length ≤ 2 := vint_length 2 _ hz (by omega)
    have hd : (dif (lmin l) (lmax l)).toNat < 2 ^ 12 := by
      rw [dif_toNat (by omega) (by omega) c]
      omega
    have h3 : wid l ≤ 12 := blen_le hd
    have h4 : l.length * wid l ≤ 2 * 12 := Nat.mul_le_mul hn h3
    rw [packB_pos h0]
    simp only [List.length_append, List.length_cons, leB_length, siz]
    omega
  · obtain rfl : l = [] := List.eq_nil_of_length_eq_zero (by omega)
    rw [packB_nil]; simp
theorem runs_few {l : List Int} (hn : (rns l).length ≤ 2) (hl : l.length ≤ 4096) : (packB (rvs l)).length + (packB (rls l)).length ≤ 35 := by
  have h1 := pack_few (l := rvs l) (n := 64) (by simpa using hn) (wid_le _)
  have h2 := pack_low (l := rls l) (by simpa using hn) (fun x hx => by have := rls_in hx; omega)
  omega
theorem enc_few {l : List Int} {i : Nat} (hi : i < 4) (h : fS i l ≤ 39) : (encB l).length ≤ 40 := by
  have := (kd_least l hi).1
  simp only [encB, List.length_cons]
  unfold fS at this h
  omega
theorem rns_rep (v : Int) : ∀ n, (rns (List.replicate n v)).length ≤ 1
  | 0 => by simp [rns, rrev]
  | n + 1 => by rw [rns, rrev_rep]; simp
theorem enc_same (v : Int) {n : Nat} (hn : n ≤ 4096) : (encB (List.replicate n v)).length ≤ 40 := by
  refine enc_few (i := 1) (by omega) ?_
  rw [fS_1]
  have := runs_few (l := List.replicate n v) (by have := rns_rep v n; omega) (by simpa using hn)
  omega
/-- v, v + step, .. -/
def stpL (v step : Int) (n : Nat) : List Int := (List.range n).map fun i : Nat => wadd v (wmul i step)
theorem stp_dif (v step : Int) (n : Nat) (hv : -9223372036854775808 ≤ v ∧ v ≤ 9223372036854775807) (hs : -9223372036854775808 ≤ step ∧ step ≤ 9223372036854775807) : difL (stpL v step (n + 1)) = v :: List.replicate n step := by
  apply List.ext_getElem
  · simp [stpL]
  · intro j h1 h2
    rw [difL_length] at h1
    simp only [difL, List.getElem_map, List.getElem_range]
    have hg : ∀ i (h : i < (stpL v step (n + 1)).length), (stpL v step (n + 1))[i] = wadd v (wmul i step) := fun i h => by simp [stpL]
    by_cases h0 : j = 0
    · subst h0
      rw [difA_zero (by omega), hg]
      simp only [List.getElem_cons_zero]
      unfold wadd wmul
      simp only [IntKind.wrap_i64]
      omega
    · rw [difA_at h0 (by omega), hg, hg]
      have hj : (List.replicate n step).length = n := by simp
      have : (v :: List.replicate n step)[j] = step := by
        rw [List.getElem_cons]
        simp [h0]
      rw [this]
      obtain ⟨i, rfl⟩ : ∃ i, j = i + 1 := ⟨j - 1, by omega⟩
      simp only [Nat.add_sub_cancel]
      unfold wadd wmul wsub
      simp only [IntKind.wrap_i64]
      have e : ((i + 1 : Nat) : Int) * step = (i : Int) * step + step := by
        rw [Int.natCast_add, Int.add_mul]; simp
      rw [e]
      generalize (i : Int) * step = z
      omega
theorem rns_two (v s : Int) (n : Nat) : (rns (v :: List.replicate n s)).length ≤ 2 := by
  have h := rns_rep s n
  cases n with
  | zero => simp [rns, rrev, rstep]
  | succ n =>
    have h1 := rns_rep v (n + 2)
    by_cases e : s = v
    · subst e
      have h2 : (rns (s :: s :: List.replicate n s)).length ≤ 1 := by simpa [List.replicate_succ] using h1
      rw [List.replicate_succ]
      omega
    · have := rns_lead (x := v) (k := 1) (r := List.replicate (n + 1) s) (by omega) (fun _ => by simpa using e)
      simp only [List.replicate_one, List.singleton_append] at this
      rw [this, List.length_cons]
      omega
theorem enc_steps (v step : Int) {n : Nat} (hn : n ≤ 4096) (hv : -9223372036854775808 ≤ v ∧ v ≤ 9223372036854775807) (hs : -9223372036854775808 ≤ step ∧ step ≤ 9223372036854775807) : (encB (stpL v step n)).length ≤ 40 := by
  cases n with
  | zero => rw [show stpL v step 0 = List.replicate 0 v from rfl]; exact enc_same v (by omega)
  | succ n =>
    refine enc_few (i := 3) (by omega) ?_
    rw [fS_3, stp_dif v step n hv hs]
    have := runs_few (l := v :: List.replicate n step) (rns_two v step n) (by simpa using hn)
    omega
theorem stp_ok (v step : Int) (n : Nat) : okI (stpL v step n) := fun x hx => by
  simp only [stpL, List.mem_map] at hx
  obtain ⟨i, _, rfl⟩ := hx
  exact wrap_range _
end Go.Proofs.Ytaegfjolemehaaa
