/- Dictionary: what is read of bytes; plain laws. -/
import Derived.Test.YtnncjfphdcfimaaDce
import Derived.Test.YtnncjfphdcfimaaBpg
set_option linter.unusedVariables false
set_option linter.unusedSimpArgs false
set_option maxRecDepth 100000
set_option maxHeartbeats 4000000
namespace Go.Proofs.Ytnncjfphdcfimaa
open Go.RowKit
attribute [local irreducible] G GC At wpL DR XPost CPost Cut GA GAR GAX GAt NxA GH GHR NxH
attribute [local irreducible] ofD srtL cmpL

/-- one string's form -/
def oneS (f : Bool) (bf q : List (BitVec 8)) : Except Int (List (BitVec 8) × List (BitVec 8)) :=
  match rdB q with
  | .error e => .error e
  | .ok (u, k) => match rdB (q.drop k) with
    | .error e => .error e
    | .ok (v, j) =>
      if bf.length < u.toNat ∨ 255 < u.toNat + v.toNat then .error 5
      else if ((q.drop k).drop j).length < v.toNat then .error 7
      else if (f = false ∧ ¬ ltS bf (bf.take u.toNat ++ ((q.drop k).drop j).take v.toNat)) ∨ ¬ shB bf (bf.take u.toNat ++ ((q.drop k).drop j).take v.toNat) = u.toNat then .error 5
      else .ok (bf.take u.toNat ++ ((q.drop k).drop j).take v.toNat, ((q.drop k).drop j).drop v.toNat)
/-- the strings that are read, and the rest or the error -/
def unS : Nat → Bool → List (BitVec 8) → List (BitVec 8) → List ByteArray × Except Int (List (BitVec 8))
  | 0, _, _, q => ([], .ok q)
  | n + 1, f, bf, q => match oneS f bf q with
    | .error e => ([], .error e)
    | .ok (s, q') => (ofL s :: (unS n false s q').1, (unS n false s q').2)
def unD (bs : List (BitVec 8)) : List ByteArray × Except Int (List (BitVec 8)) := match rdB bs with
  | .error e => ([], .error e)
  | .ok (u, k) => if 4096 < u.toNat then ([], .error 5) else unS u.toNat true [] (bs.drop k)

theorem shB_take : ∀ (a b : List (BitVec 8)), a.take (shB a b) = b.take (shB a b)
  | [], b => by simp [shB]
  | _ :: _, [] => by simp [shB]
  | a :: x, b :: y => by
    rw [shB]; split
    · rename_i h
      rw [List.take_succ_cons, List.take_succ_cons, shB_take x y, h]
    · rfl
theorem nat64 {n : Nat} (h : n ≤ 1000000) : (BitVec.ofNat 64 n).toNat = n := by rw [BitVec.toNat_ofNat]; omega
/-- a string's form, behind another string -/
abbrev rcS (bf s : List (BitVec 8)) : List (BitVec 8) := vint (BitVec.ofNat 64 (shB bf s)) ++ (vint (BitVec.ofNat 64 (s.length - shB bf s)) ++ s.drop (shB bf s))
theorem one_pk {f : Bool} {bf s : List (BitVec 8)} (hs : s.length ≤ 255) (hf : f = false → ltS bf s) (r : List (BitVec 8)) : oneS f bf (rcS bf s ++ r) = .ok (s, r) := by
  have h1 := shB_le bf s
  have e1 : rcS bf s ++ r = vint (BitVec.ofNat 64 (shB bf s)) ++ (vint (BitVec.ofNat 64 (s.length - shB bf s)) ++ (s.drop (shB bf s) ++ r)) := by simp only [rcS, List.append_assoc]
  have e2 : (BitVec.ofNat 64 (shB bf s)).toNat = shB bf s := nat64 (by omega)
  have e3 : (BitVec.ofNat 64 (s.length - shB bf s)).toNat = s.length - shB bf s := nat64 (by omega)
  have e4 : (s.drop (shB bf s)).length = s.length - shB bf s := List.length_drop
  have e5 : bf.take (shB bf s) ++ (s.drop (shB bf s) ++ r).take (s.length - shB bf s) = s := by
    rw [← e4, List.take_left, shB_take, List.take_append_drop]
  rw [e1, oneS, rd_vint]
  simp only [List.drop_left]
  rw [rd_vint]
  simp only [List.drop_left, e2, e3]
  rw [if_neg (by omega), if_neg (by rw [List.length_append, e4]; omega), e5, if_neg (by
    rintro (⟨h2, h3⟩ | h2)
    · exact h3 (hf h2)
    · exact h2 rfl)]
  rw [← e4, List.drop_left]
theorem pkG_cons (bf : List (BitVec 8)) (s : ByteArray) (t : List ByteArray) : pkG bf (s :: t) = rcS bf (bL s) ++ pkG (bL s) t := by simp only [pkG, rcS, List.append_assoc]
theorem unS_pk : ∀ (t : List ByteArray) (f : Bool) (bf r : List (BitVec 8)), Dic t → (∀ s ∈ t, (bL s).length ≤ 255) → (f = false → ∀ s ∈ t, ltS bf (bL s)) → unS t.length f bf (pkG bf t ++ r) = (t, .ok r)
  | [], f, bf, r, _, _, _ => by rw [pkG]; rfl
  | s :: t, f, bf, r, hd, hl, hf => by
    have hp := List.pairwise_cons.1 hd
    rw [pkG_cons, List.append_assoc, List.length_cons, unS, one_pk (hl s (List.mem_cons_self ..)) (fun h => hf h s (List.mem_cons_self ..))]
    simp only
    rw [unS_pk t false (bL s) r hp.2 (fun x hx => hl x (List.mem_cons_of_mem _ hx)) (fun _ x hx => hp.1 x hx), ofL_bL]
theorem un_pk {d : List ByteArray} (h : VaD d) (r : List (BitVec 8)) : unD (pkD d ++ r) = (d, .ok r) := by
  have h2 := h.2
  have e : (BitVec.ofNat 64 d.length).toNat = d.length := nat64 (by omega)
  rw [pkD, List.append_assoc, unD, rd_vint]
  simp only [List.drop_left, e]
  rw [if_neg (by omega), unS_pk d true [] r (va_dic h) (va_len h) (fun h => by cases h)]

theorem one_canon {f : Bool} {bf q s q' : List (BitVec 8)} (h : oneS f bf q = .ok (s, q')) : s.length ≤ 255 ∧ (f = false → ltS bf s) ∧ rcS bf s ++ q' = q ∧ q'.length < q.length := by
  rw [oneS] at h
  cases h1 : rdB q with
  | error e => rw [h1] at h; cases h
  | ok p =>
    obtain ⟨u, k⟩ := p
    rw [h1] at h
    simp only at h
    cases h2 : rdB (q.drop k) with
    | error e => rw [h2] at h; cases h
    | ok p =>
      obtain ⟨v, j⟩ := p
      rw [h2] at h
      simp only at h
      split at h
      · cases h
      · rename_i h3
        split at h
        · cases h
        · rename_i h4
          split at h
          · cases h
          · rename_i h5
            simp only [Except.ok.injEq, Prod.mk.injEq] at h
            obtain ⟨hs, hq⟩ := h
            have hsh : shB bf s = u.toNat := by
              rw [← hs]; exact Decidable.not_not.1 fun h => h5 (.inr h)
            have hlen : s.length = u.toNat + v.toNat := by
              rw [← hs, List.length_append, List.length_take, List.length_take]; omega
            have hdrop : s.drop u.toNat = ((q.drop k).drop j).take v.toNat := by
              have e : (bf.take u.toNat).length = u.toNat := by rw [List.length_take]; omega
              have e2 := List.drop_left (l₁ := bf.take u.toNat) (l₂ := ((q.drop k).drop j).take v.toNat)
              rw [e, hs] at e2
              exact e2
            have c1 := rd_canon h1
            have c2 := rd_canon h2
            have l1 := rdB_le h1
            refine ⟨by omega, fun hf => ?_, ?_, ?_⟩
            · rw [← hs]; exact Decidable.not_not.1 fun h => h5 (.inl ⟨hf, h⟩)
            · simp only [rcS, hsh, hlen, Nat.add_sub_cancel_left, hdrop, BitVec.ofNat_toNat, BitVec.setWidth_eq, List.append_assoc]
              rw [← hq, List.take_append_drop, c2.1, c1.1]
            · rw [← hq, List.length_drop, List.length_drop, List.length_drop]; omega
theorem unS_canon : ∀ {n : Nat} {f : Bool} {bf q r : List (BitVec 8)} {l : List ByteArray}, unS n f bf q = (l, .ok r) → l.length = n ∧ (∀ s ∈ l, (bL s).length ≤ 255) ∧ Dic l ∧ (f = false → ∀ s ∈ l, ltS bf (bL s)) ∧ pkG bf l ++ r = q
  | 0, f, bf, q, r, l, h => by
    rw [unS] at h
    simp only [Prod.mk.injEq, Except.ok.injEq] at h
    obtain ⟨rfl, rfl⟩ := h
    exact ⟨rfl, by simp, List.Pairwise.nil, by simp, rfl⟩
  | n + 1, f, bf, q, r, l, h => by
    rw [unS] at h
    cases h1 : oneS f bf q with
    | error e => rw [h1] at h; simp at h
    | ok p =>
      obtain ⟨s, q'⟩ := p
      rw [h1] at h
      simp only [Prod.mk.injEq] at h
      obtain ⟨h2, h3⟩ := h
      obtain ⟨a1, a2, a3, a4, a5⟩ := unS_canon (n := n) (l := (unS n false s q').1) (r := r) (Prod.ext rfl h3)
      obtain ⟨b1, b2, b3, _⟩ := one_canon h1
      subst h2
      refine ⟨by rw [List.length_cons, a1], fun x hx => ?_, List.pairwise_cons.2 ⟨fun x hx => ?_, a3⟩, fun hf x hx => ?_, ?_⟩
      · rcases List.mem_cons.1 hx with rfl | hx
        · rw [bL_ofL]; exact b1
        · exact a2 x hx
      · rw [bL_ofL]; exact a4 rfl x hx
      · rcases List.mem_cons.1 hx with rfl | hx
        · rw [bL_ofL]; exact b2 hf
        · exact ltS_trans (b2 hf) (a4 rfl x hx)
      · rw [pkG_cons, bL_ofL, List.append_assoc, a5, b3]
theorem un_canon {bs r : List (BitVec 8)} {d : List ByteArray} (h : unD bs = (d, .ok r)) : VaD d ∧ pkD d ++ r = bs := by
  rw [unD] at h
  cases h1 : rdB bs with
  | error e => rw [h1] at h; simp at h
  | ok p =>
    obtain ⟨u, k⟩ := p
    rw [h1] at h
    simp only at h
    split at h
    · simp at h
    · rename_i h2
      obtain ⟨a1, a2, a3, _, a5⟩ := unS_canon h
      have c1 := rd_canon h1
      refine ⟨va_iff.2 ⟨a3, a2, by omega⟩, ?_⟩
      rw [pkD, a1, List.append_assoc, a5, BitVec.ofNat_toNat, BitVec.setWidth_eq]
      exact c1.1

theorem one_err {f : Bool} {bf q : List (BitVec 8)} {e : Int} (h : oneS f bf q = .error e) : e = 5 ∨ e = 7 := by
  rw [oneS] at h
  cases h1 : rdB q with
  | error e1 =>
    rw [h1] at h
    simp only [Except.error.injEq] at h
    subst h; exact rd_err h1
  | ok p =>
    obtain ⟨u, k⟩ := p
    rw [h1] at h
    simp only at h
    cases h2 : rdB (q.drop k) with
    | error e1 =>
      rw [h2] at h
      simp only [Except.error.injEq] at h
      subst h; exact rd_err h2
    | ok p =>
      obtain ⟨v, j⟩ := p
      rw [h2] at h
      simp only at h
      split at h
      · simp only [Except.error.injEq] at h; omega
      · split at h
        · simp only [Except.error.injEq] at h; omega
        · split at h
          · simp only [Except.error.injEq] at h; omega
          · cases h
theorem unS_err : ∀ {n : Nat} {f : Bool} {bf q : List (BitVec 8)} {l : List ByteArray} {e : Int}, unS n f bf q = (l, .error e) → e = 5 ∨ e = 7
  | 0, f, bf, q, l, e, h => by rw [unS] at h; simp at h
  | n + 1, f, bf, q, l, e, h => by
    rw [unS] at h
    cases h1 : oneS f bf q with
    | error e1 =>
      rw [h1] at h
      simp only [Prod.mk.injEq, Except.error.injEq] at h
      rw [← h.2]; exact one_err h1
    | ok p =>
      rw [h1] at h
      simp only [Prod.mk.injEq] at h
      exact unS_err (l := (unS n false p.1 p.2).1) (Prod.ext rfl h.2)
theorem un_err {bs : List (BitVec 8)} {l : List ByteArray} {e : Int} (h : unD bs = (l, .error e)) : e = 5 ∨ e = 7 := by
  rw [unD] at h
  cases h1 : rdB bs with
  | error e1 =>
    rw [h1] at h
    simp only [Prod.mk.injEq, Except.error.injEq] at h
    rw [← h.2]; exact rd_err h1
  | ok p =>
    rw [h1] at h
    simp only at h
    split at h
    · simp only [Prod.mk.injEq, Except.error.injEq] at h; omega
    · exact unS_err h

theorem take_app {α : Type} {a b : List α} {m : Nat} (h : a.length ≤ m) : (a ++ b).take m = a ++ b.take (m - a.length) := by
  conv => lhs; rw [show m = a.length + (m - a.length) by omega, List.take_length_add_append]
theorem one_short {f : Bool} {bf s : List (BitVec 8)} (hs : s.length ≤ 255) {m : Nat} (hm : m < (rcS bf s).length) : oneS f bf ((rcS bf s).take m) = .error 7 := by
  have h1 := shB_le bf s
  have e2 : (BitVec.ofNat 64 (shB bf s)).toNat = shB bf s := nat64 (by omega)
  have e3 : (BitVec.ofNat 64 (s.length - shB bf s)).toNat = s.length - shB bf s := nat64 (by omega)
  simp only [rcS, List.length_append, List.length_drop] at hm
  by_cases h2 : m < (vint (BitVec.ofNat 64 (shB bf s))).length
  · rw [oneS, rcS, List.take_append_of_le_length (by omega), rd_short _ _ h2]
  · rw [rcS, take_app (by omega), oneS, rd_vint]
    simp only [List.drop_left]
    by_cases h3 : m - (vint (BitVec.ofNat 64 (shB bf s))).length < (vint (BitVec.ofNat 64 (s.length - shB bf s))).length
    · rw [List.take_append_of_le_length (by omega), rd_short _ _ h3]
    · rw [take_app (by omega), rd_vint]
      simp only [List.drop_left, e2, e3]
      rw [if_neg (by omega), if_pos (by rw [List.length_take, List.length_drop]; omega)]
theorem unS_short : ∀ (t : List ByteArray) (f : Bool) (bf : List (BitVec 8)) (m : Nat), Dic t → (∀ s ∈ t, (bL s).length ≤ 255) → (f = false → ∀ s ∈ t, ltS bf (bL s)) → m < (pkG bf t).length → (unS t.length f bf ((pkG bf t).take m)).2 = .error 7
  | [], f, bf, m, _, _, _, h => by simp [pkG] at h
  | s :: t, f, bf, m, hd, hl, hf, h => by
    have hp := List.pairwise_cons.1 hd
    rw [pkG_cons, List.length_append] at h
    rw [pkG_cons, List.length_cons, unS]
    by_cases h2 : m < (rcS bf (bL s)).length
    · rw [List.take_append_of_le_length (by omega), one_short (hl s (List.mem_cons_self ..)) h2]
    · rw [take_app (by omega), one_pk (hl s (List.mem_cons_self ..)) (fun h => hf h s (List.mem_cons_self ..))]
      exact unS_short t false (bL s) _ hp.2 (fun x hx => hl x (List.mem_cons_of_mem _ hx)) (fun _ x hx => hp.1 x hx) (by omega)
theorem un_short {d : List ByteArray} (h : VaD d) {m : Nat} (hm : m < (pkD d).length) : (unD ((pkD d).take m)).2 = .error 7 := by
  have h2 := h.2
  have e : (BitVec.ofNat 64 d.length).toNat = d.length := nat64 (by omega)
  rw [pkD, List.length_append] at hm
  rw [pkD, unD]
  by_cases h3 : m < (vint (BitVec.ofNat 64 d.length)).length
  · rw [List.take_append_of_le_length (by omega), rd_short _ _ h3]
  · rw [take_app (by omega), rd_vint]
    simp only [List.drop_left, e]
    rw [if_neg (by omega)]
    exact unS_short d true [] _ (va_dic h) (va_len h) (fun h => by cases h) (by omega)
end Go.Proofs.Ytnncjfphdcfimaa
