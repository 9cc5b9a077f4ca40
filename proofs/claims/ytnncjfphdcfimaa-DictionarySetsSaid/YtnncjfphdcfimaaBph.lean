/- Bitpack: what is read is what was packed, and nothing else is accepted (plain). -/
import Derived.Test.YtnncjfphdcfimaaBpg
set_option linter.unusedVariables false
set_option linter.unusedSimpArgs false
set_option maxRecDepth 100000
set_option maxHeartbeats 4000000
namespace Go.Proofs.Ytnncjfphdcfimaa
open Go.RowKit
attribute [local irreducible] G GC At wpL DR XPost CPost Cut GA GAR GAX GAt NxA GH GHR NxH

theorem dAt_lt (body : List (BitVec 8)) (W i : Nat) : dAt body W i < 2 ^ W := bitsN_lt _ _
theorem lsA_length (body : List (BitVec 8)) (low : Int) (W n : Nat) : (lsA body low W n).length = n := by simp [lsA]
theorem lsA_get {body : List (BitVec 8)} {low : Int} {W n i : Nat} (h : i < (lsA body low W n).length) : (lsA body low W n)[i] = vAt body low W i := by simp [lsA]
theorem vAt_range (body : List (BitVec 8)) (low : Int) (W i : Nat) : -9223372036854775808 ≤ vAt body low W i ∧ vAt body low W i ≤ 9223372036854775807 := by
  unfold vAt
  have h1 := BitVec.toInt_lt (x := BitVec.ofInt 64 low + BitVec.ofNat 64 (dAt body W i))
  have h2 := BitVec.le_toInt (x := BitVec.ofInt 64 low + BitVec.ofNat 64 (dAt body W i))
  omega
theorem lsA_ok (body : List (BitVec 8)) (low : Int) (W n : Nat) : okI (lsA body low W n) := by
  intro x hx
  obtain ⟨i, _, rfl⟩ := List.mem_map.1 hx
  exact vAt_range _ _ _ _
theorem dif_vAt (body : List (BitVec 8)) (low : Int) (W i : Nat) : dif low (vAt body low W i) = BitVec.ofNat 64 (dAt body W i) := by
  unfold dif vAt
  rw [BitVec.ofInt_toInt, BitVec.add_comm, BitVec.add_sub_cancel]
theorem vAt_sub {body : List (BitVec 8)} {low : Int} {W i : Nat} (hW : W ≤ 64) (hl : -9223372036854775808 ≤ low) (h : low ≤ vAt body low W i) : vAt body low W i - low = dAt body W i := by
  have h1 := vAt_range body low W i
  have h2 := dif_toNat hl h1.2 h
  rw [dif_vAt, BitVec.toNat_ofNat] at h2
  have h3 := Nat.lt_of_lt_of_le (dAt_lt body W i) (Nat.pow_le_pow_right (show 0 < 2 by omega) hW)
  omega
theorem wid_byte (l : List Int) : (BitVec.ofNat 8 (wid l)).toNat = wid l := by
  have := wid_le l
  rw [BitVec.toNat_ofNat]; omega
theorem bf_lsA {body : List (BitVec 8)} {low : Int} {W n t : Nat} (hW64 : W ≤ 64) (h : t < n * W) : bf W ((lsA body low W n).map (dif low)) t = bitAt body t := by
  have hW : 0 < W := by
    rcases Nat.eq_zero_or_pos W with e | e
    · subst e; omega
    · exact e
  have h1 : t / W < n := Nat.div_lt_of_lt_mul (by rwa [Nat.mul_comm])
  have h2 : t % W < W := Nat.mod_lt _ hW
  have h3 : t / W * W + t % W = t := Nat.div_add_mod' t W
  have key := bf_at (w := W) (ds := (lsA body low W n).map (dif low)) (i := t / W) (k := t % W) h2 (by rw [List.length_map, lsA_length]; exact h1)
  rw [h3, List.getElem_map, lsA_get, dif_vAt] at key
  rw [key, BitVec.getLsbD_ofNat]
  show (decide _ && (rdBits body (t / W * W) W).testBit (t % W)) = _
  unfold rdBits
  rw [bitsN_test]
  have h64 : t % W < 64 := by omega
  simp only [h64, h2, decide_true, Bool.true_and, h3]; rfl
theorem leB_body {f : Nat → Bool} {body : List (BitVec 8)} {n W : Nat} (hl : siz n W ≤ body.length) (hf : ∀ t, t < n * W → f t = bitAt body t) (hp : ∀ t, n * W ≤ t → t < 8 * siz n W → bitAt body t = false) :
    leB (bitsN f (n * W)) (siz n W) = body.take (siz n W) := by
  apply List.ext_getElem
  · simp; omega
  · intro j h1 h2
    rw [leB_length] at h1
    rw [leB_get _ _ j h1, List.getElem_take]
    apply BitVec.eq_of_getLsbD_eq
    intro i hi
    rw [byte_bit _ _ _ hi, bitsN_test]
    have e1 : (i + 8 * j) / 8 = j := by omega
    have e2 : (i + 8 * j) % 8 = i := by omega
    have e3 : bitAt body (i + 8 * j) = (body[j]'(by omega)).getLsbD i := by
      unfold bitAt
      rw [e1, e2]
      congr 1
      simp [List.getD, show j < body.length by omega]
    rw [← e3]
    by_cases ht : i + 8 * j < n * W
    · rw [hf _ ht]; simp [ht]
    · rw [hp _ (by omega) (by omega)]; simp [ht]
theorem packB_pos {l : List Int} (h : 0 < l.length) : packB l = vint (BitVec.ofNat 64 l.length) ++ (vint (zig (lmin l)) ++ (BitVec.ofNat 8 (wid l) :: leB (bitsN (bf (wid l) (l.map (dif (lmin l)))) (l.length * wid l)) (siz l.length (wid l)))) := by
  rw [packB, if_neg (by omega), bodyB]; simp
theorem packB_nil : packB [] = [0#8] := by
  rw [packB, if_pos List.length_nil, vint_last _ (by decide)]; rfl
theorem ofNat_len {n : BitVec 64} : BitVec.ofNat 64 n.toNat = n := by simp

section
variable {bs : List (BitVec 8)} {n u : BitVec 64} {k j : Nat}
theorem off_take (h1 : rdB bs = .ok (n, k)) (h2 : rdB (bs.drop k) = .ok (u, j)) (x : BitVec 8) (body : List (BitVec 8)) (hx : (bs.drop k).drop j = x :: body) (S : Nat) : bs.take (k + j + 1 + S) = vint n ++ (vint u ++ (x :: body.take S)) := by
  have e1 := rd_take h1
  have e2 := rd_take h2
  have a1 := rdB_le h1
  have a2 := rdB_le h2
  have e3 : bs = bs.take k ++ ((bs.drop k).take j ++ (bs.drop k).drop j) := by rw [List.take_append_drop, List.take_append_drop]
  rw [hx, e1, e2] at e3
  have l1 : (vint n).length = k := by rw [← e1, List.length_take]; omega
  have l2 : (vint u).length = j := by rw [← e2, List.length_take]; omega
  conv => lhs; rw [e3]
  rw [List.take_append, List.take_of_length_le (by omega), List.take_append, List.take_of_length_le (by omega), show k + j + 1 + S - (vint n).length - (vint u).length = S + 1 by omega, List.take_succ_cons]
/-- what is accepted is the packed form of the list that was read -/
theorem good_iff (h1 : rdB bs = .ok (n, k)) (h2 : rdB (bs.drop k) = .ok (u, j)) (x : BitVec 8) (body : List (BitVec 8)) (hx : (bs.drop k).drop j = x :: body) (hn : 0 < n.toNat) (hW : x.toNat ≤ 64) (hS : siz n.toNat x.toNat ≤ body.length)
    (hge : ∀ i, i < n.toNat → unzig u ≤ vAt body (unzig u) x.toNat i) :
    packB (lsA body (unzig u) x.toNat n.toNat) = bs.take (k + j + 1 + siz n.toNat x.toNat) ↔
      (∀ t, n.toNat * x.toNat ≤ t → t < 8 * siz n.toNat x.toNat → bitAt body t = false) ∧ leastN (dAt body x.toNat) n.toNat = 0 ∧ blen (mostN (dAt body x.toNat) n.toNat) = x.toNat := by
  have hur := unzig_range u
  have hoff := off_take h1 h2 x body hx (siz n.toNat x.toNat)
  rw [hoff]
  clear hoff
  generalize hlow : unzig u = low at *
  generalize hWW : x.toNat = W at *
  have hlen := lsA_length body low W n.toNat
  have hok := lsA_ok body low W n.toNat
  have hpk := packB_pos (l := lsA body low W n.toNat) (by omega)
  rw [hlen, ofNat_len] at hpk
  have hmem : ∀ i, i < n.toNat → vAt body low W i ∈ lsA body low W n.toNat := fun i hi => List.mem_map.2 ⟨i, List.mem_range.2 hi, rfl⟩
  have hmn := lmin_mem (l := lsA body low W n.toNat) (by omega)
  have hmx := lmax_mem (l := lsA body low W n.toNat) (by omega)
  have hall : ∀ y ∈ lsA body low W n.toNat, ∃ i, i < n.toNat ∧ vAt body low W i = y := fun y hy => by
    obtain ⟨i, hi, e⟩ := List.mem_map.1 hy
    exact ⟨i, List.mem_range.1 hi, e⟩
  have hbf : ∀ t, t < n.toNat * W → bf W ((lsA body low W n.toNat).map (dif low)) t = bitAt body t := fun t ht => bf_lsA hW ht
  generalize lsA body low W n.toNat = L at *
  -- the list's least element is the base just if some difference is zero; its width is that of the greatest
  have hmin : leastN (dAt body W) n.toNat = 0 → lmin L = low := by
    intro h0
    rcases leastN_mem (dAt body W) n.toNat with e | ⟨i, hi, e⟩
    · omega
    · have := vAt_sub hW hur.1 (hge i hi)
      have h3 := lmin_le _ (hmem i hi)
      obtain ⟨i', hi', e'⟩ := hall _ hmn
      have h4 := hge i' hi'
      omega
  have hwid : lmin L = low → wid L = blen (mostN (dAt body W) n.toNat) := by
    intro h0
    unfold wid
    rw [h0, dif_toNat hur.1 (hok _ hmx).2 (by rw [← h0]; exact lmin_le _ hmx)]
    congr 1
    obtain ⟨i, hi, e⟩ := hall _ hmx
    have a1 := vAt_sub hW hur.1 (hge i hi)
    have a2 := le_mostN (dAt body W) n.toNat i hi
    obtain ⟨i', hi', e'⟩ := mostN_mem (dAt body W) n.toNat hn
    have a3 := vAt_sub hW hur.1 (hge i' hi')
    have a4 := le_lmax _ (hmem i' hi')
    omega
  constructor
  · intro he
    rw [hpk] at he
    have he2 := List.append_cancel_left he
    have r1 := rd_vint (zig (lmin L)) (BitVec.ofNat 8 (wid L) :: leB (bitsN (bf (wid L) (L.map (dif (lmin L)))) (n.toNat * wid L)) (siz n.toNat (wid L)))
    rw [he2, rd_vint] at r1
    simp only [Except.ok.injEq, Prod.mk.injEq] at r1
    have hlm : lmin L = low := by rw [← hlow, r1.1, unzig_zig (hok _ hmn).1 (hok _ hmn).2]
    rw [hlm, ← hlow, zig_unzig] at he2
    have he3 := List.append_cancel_left he2
    rw [hlow] at he3
    simp only [List.cons.injEq] at he3
    have hw : wid L = W := by rw [← hWW, ← he3.1, wid_byte]
    rw [hw] at he3
    refine ⟨fun t ht1 ht2 => ?_, ?_, ?_⟩
    · have hj : t / 8 < siz n.toNat W := by omega
      have := leB_bit (n := bitsN (bf W (L.map (dif low))) (n.toNat * W)) hj
      rw [bitsN_test, decide_eq_false (by omega), Bool.false_and] at this
      unfold bitAt
      rw [← this]
      congr 1
      have e := congrArg (fun l => l.getD (t / 8) 0#8) he3.2
      simp only [List.getD_eq_getElem?_getD] at e
      rw [List.getElem?_eq_getElem (by simpa using hj), List.getElem?_take, if_pos hj] at e
      rw [List.getD_eq_getElem?_getD]
      exact e.symm
    · obtain ⟨i, hi, e⟩ := hall _ hmn
      have a1 := vAt_sub hW hur.1 (hge i hi)
      have a2 := leastN_le (dAt body W) n.toNat i hi
      omega
    · rw [← hwid hlm, hw]
  · rintro ⟨hp, h0, hb⟩
    have hlm := hmin h0
    have hw := hwid hlm
    rw [hb] at hw
    rw [hpk, hlm, hw, ← hlow, zig_unzig, hlow, leB_body hS hbf hp]
    congr 3
    apply BitVec.eq_of_toNat_eq
    rw [BitVec.toNat_ofNat]; omega
end

/-- Unpack gives back what Pack was given, and where the rest begins -/
theorem unp_pack {l : List Int} (hi : okI l) (hn : l.length ≤ 4096) (rest : List (BitVec 8)) : unpB (packB l ++ rest) = .ok (l, (packB l).length) := by
  by_cases h0 : l.length = 0
  · obtain rfl := List.eq_nil_of_length_eq_zero h0
    have e : packB [] = vint 0#64 := by rw [packB, if_pos List.length_nil]
    rw [e, unpB, rd_vint]
    simp
  · have hpos : 0 < l.length := by omega
    have hlen : (BitVec.ofNat 64 l.length).toNat = l.length := by rw [BitVec.toNat_ofNat]; omega
    have hmn := hi _ (lmin_mem hpos)
    have hmx := hi _ (lmax_mem hpos)
    have hw := wid_le l
    have hwb := wid_byte l
    rw [packB_pos hpos]
    generalize hb : leB (bitsN (bf (wid l) (l.map (dif (lmin l)))) (l.length * wid l)) (siz l.length (wid l)) = b
    have hbl : b.length = siz l.length (wid l) := by rw [← hb, leB_length]
    generalize hv1 : vint (BitVec.ofNat 64 l.length) = v1
    generalize hv2 : vint (zig (lmin l)) = v2
    have r1 : rdB (v1 ++ (v2 ++ BitVec.ofNat 8 (wid l) :: b) ++ rest) = .ok (BitVec.ofNat 64 l.length, v1.length) := by
      rw [← hv1, List.append_assoc, rd_vint]
    have d1 : (v1 ++ (v2 ++ BitVec.ofNat 8 (wid l) :: b) ++ rest).drop v1.length = v2 ++ ((BitVec.ofNat 8 (wid l) :: b) ++ rest) := by
      rw [List.append_assoc, List.drop_left, List.append_assoc]
    have r2 : rdB (v2 ++ ((BitVec.ofNat 8 (wid l) :: b) ++ rest)) = .ok (zig (lmin l), v2.length) := by
      rw [← hv2, rd_vint]
    have d2 : (v2 ++ ((BitVec.ofNat 8 (wid l) :: b) ++ rest)).drop v2.length = BitVec.ofNat 8 (wid l) :: (b ++ rest) := by
      rw [List.drop_left]; rfl
    have hls : lsA (b ++ rest) (lmin l) (wid l) l.length = l := by
      apply List.ext_getElem
      · exact lsA_length _ _ _ _
      · intro i hi1 hi2
        rw [lsA_get]
        have hlt : (dif (lmin l) l[i]).toNat < 2 ^ wid l := by
          have h1 := lmin_le _ (List.getElem_mem hi2)
          have h2 := le_lmax _ (List.getElem_mem hi2)
          have a1 := dif_toNat hmn.1 hmx.2 (Int.le_trans h1 h2)
          have a2 := dif_toNat hmn.1 (hi _ (List.getElem_mem hi2)).2 h1
          have := lt_blen (dif (lmin l) (lmax l)).toNat
          unfold wid
          omega
        have hd : dAt (b ++ rest) (wid l) i = (dif (lmin l) l[i]).toNat := by
          refine Eq.trans ?_ (bitsN_self hlt)
          refine bitsN_congr fun k hk => ?_
          have h1 : (i + 1) * wid l ≤ l.length * wid l := Nat.mul_le_mul_right _ hi2
          rw [Nat.add_mul, Nat.one_mul] at h1
          have hj : (i * wid l + k) / 8 < siz l.length (wid l) := by unfold siz; omega
          have e := leB_bit (n := bitsN (bf (wid l) (l.map (dif (lmin l)))) (l.length * wid l)) (k := siz l.length (wid l)) (t := i * wid l + k) hj
          rw [bitsN_test, bf_at hk (by simpa using hi2), List.getElem_map, decide_eq_true (by omega), Bool.true_and] at e
          rw [BitVec.testBit_toNat, ← e]
          congr 1
          rw [List.getD_eq_getElem?_getD, List.getElem?_append_left (by omega), ← hb, List.getElem?_eq_getElem (by simpa using hj)]
          rfl
        have hr := hi _ (List.getElem_mem hi2)
        unfold vAt
        rw [hd, BitVec.ofNat_toNat, BitVec.setWidth_eq]
        unfold dif
        rw [BitVec.add_comm, BitVec.sub_add_cancel, BitVec.toInt_ofInt]
        exact Int.bmod_eq_of_le (by omega) (by omega)
    rw [unpB, r1]
    simp only [hlen, if_neg h0]
    rw [if_neg (by omega), d1, r2]
    simp only
    rw [d2, unp1, if_neg (by simp), List.getD_cons_zero, hwb, if_neg (by omega), List.drop_one, List.tail_cons, if_neg (by rw [List.length_append]; omega), unzig_zig hmn.1 hmn.2, unp2, hls, if_pos]
    · congr 2
      simp only [List.length_append, List.length_cons, hbl]; omega
    · constructor
      · intro i hi3
        have : vAt (b ++ rest) (lmin l) (wid l) i = l[i]'hi3 := by
          have := lsA_get (body := b ++ rest) (low := lmin l) (W := wid l) (n := l.length) (i := i) (by rw [lsA_length]; exact hi3)
          rw [← this]
          congr 1
        rw [this]
        exact lmin_le _ (List.getElem_mem hi3)
      · rw [packB_pos hpos, hb, hv1, hv2]
        exact (List.take_left' (by simp only [List.length_append, List.length_cons, hbl]; omega)).symm

/-- .. and a proper beginning is too short -/
theorem unp_short {l : List Int} (hn : l.length ≤ 4096) (m : Nat) (hm : m < (packB l).length) : unpB ((packB l).take m) = .error 7 := by
  by_cases h0 : l.length = 0
  · obtain rfl := List.eq_nil_of_length_eq_zero h0
    rw [packB_nil] at hm ⊢
    obtain rfl : m = 0 := by simpa using hm
    rfl
  · have hpos : 0 < l.length := by omega
    have hlen : (BitVec.ofNat 64 l.length).toNat = l.length := by rw [BitVec.toNat_ofNat]; omega
    have hw := wid_le l
    have hwb := wid_byte l
    rw [packB_pos hpos] at hm ⊢
    generalize hb : leB (bitsN (bf (wid l) (l.map (dif (lmin l)))) (l.length * wid l)) (siz l.length (wid l)) = b at hm ⊢
    have hbl : b.length = siz l.length (wid l) := by rw [← hb, leB_length]
    simp only [List.length_append, List.length_cons] at hm
    by_cases c1 : m < (vint (BitVec.ofNat 64 l.length)).length
    · rw [List.take_append_of_le_length (by omega), unpB, rd_short _ _ c1]
    · rw [List.take_append, List.take_of_length_le (by omega), unpB, rd_vint]
      simp only [hlen, if_neg h0]
      rw [if_neg (by omega), List.drop_left]
      by_cases c2 : m - (vint (BitVec.ofNat 64 l.length)).length < (vint (zig (lmin l))).length
      · rw [List.take_append_of_le_length (by omega), rd_short _ _ c2]
      · rw [List.take_append, List.take_of_length_le (by omega), rd_vint]
        simp only
        rw [List.drop_left]
        generalize hq : m - (vint (BitVec.ofNat 64 l.length)).length - (vint (zig (lmin l))).length = q
        cases q with
        | zero => rw [unp1, if_pos (by simp)]
        | succ q =>
          rw [List.take_succ_cons, unp1, if_neg (by simp), List.getD_cons_zero, hwb, if_neg (by omega), List.drop_one, List.tail_cons, if_pos (by rw [List.length_take]; omega)]
theorem unp_err {bs : List (BitVec 8)} {e : Int} (h : unpB bs = .error e) : e = 5 ∨ e = 7 := by
  unfold unpB unp1 unp2 at h
  repeat' split at h
  all_goals first
    | (cases h; done)
    | (cases h; simp; done)
    | (cases h; exact rd_err (by assumption))
end Go.Proofs.Ytnncjfphdcfimaa
