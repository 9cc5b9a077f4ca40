/- Container: plain laws of sealed forms. -/
import Derived.Test.YtdngfkmigpnbnaaCnb
import Derived.Test.YtdngfkmigpnbnaaBpl
import Derived.Test.YtdngfkmigpnbnaaPureOne
set_option linter.unusedVariables false
set_option linter.unusedSimpArgs false
set_option maxRecDepth 100000
set_option maxHeartbeats 4000000
namespace Go.Proofs.Ytdngfkmigpnbnaa
open Go.RowKit
attribute [local irreducible] G GC At wpL DR XPost CPost Cut GA GAR GAX GAt NxA GH GHR NxH

/-- a file -/
structure Fl where
  k : Int
  id : List Int
  da : List (BitVec 8)
instance : DecidableEq Fl := fun a b => if h : a.k = b.k ∧ a.id = b.id ∧ a.da = b.da then isTrue (by cases a; cases b; simp_all) else isFalse (fun e => h (by rw [e]; exact ⟨rfl, rfl, rfl⟩))
def hdB (f : Fl) : List (BitVec 8) := ltL ++ (BitVec.ofInt 8 f.k :: (packB f.id ++ (vint (BitVec.ofNat 64 f.da.length) ++ f.da)))
/-- the sealed form -/
def seB (f : Fl) : List (BitVec 8) := hdB f ++ sumB (hdB f)
structure OkF (f : Fl) : Prop where
  k : 1 ≤ f.k ∧ f.k ≤ 9
  id : f.id.length ≤ 40
  da : f.da.length ≤ 65536
  ok : okI f.id
def fi2 (bs : List (BitVec 8)) (x : BitVec 8) (l : List Int) (r : List (BitVec 8)) (n : Nat) : Except Int (Fl × Nat) :=
  if r.length < n + 8 then .error 7
  else if sumB (bs.take (bs.length - (r.length - n))) = (r.drop n).take 8 then .ok (⟨x.toNat, l, r.take n⟩, bs.length - (r.length - n) + 8) else .error 8
/-- what bytes begin with: a file and the length of its sealed form -/
def fiB (bs : List (BitVec 8)) : Except Int (Fl × Nat) :=
  match ltB bs with
  | .error e => .error e
  | .ok _ => match bs.drop 3 with
    | [] => .error 7
    | x :: t => if ¬ (1 ≤ x.toNat ∧ x.toNat ≤ 9) then .error 8
      else match unpB t with
      | .error e => .error (rotE e)
      | .ok (l, k) => if 40 < l.length then .error 8
        else match rdB (t.drop k) with
        | .error e => .error (rotE e)
        | .ok (u, j) => if 65536 < u.toNat then .error 8 else fi2 bs x l ((t.drop k).drop j) u.toNat
theorem lt_app (r : List (BitVec 8)) : ltB (ltL ++ r) = .ok () := by simp [ltB, ltL, ltGo]
theorem kd_byte {k : Int} (h : 1 ≤ k ∧ k ≤ 9) : ((BitVec.ofInt 8 k).toNat : Int) = k := by
  rw [BitVec.toNat_ofInt]; omega
theorem hdB_length (f : Fl) : (hdB f).length = 4 + (packB f.id).length + (vint (BitVec.ofNat 64 f.da.length)).length + f.da.length := by
  simp only [hdB, ltL, List.length_append, List.length_cons, List.length_nil]; omega
theorem seB_length (f : Fl) : (seB f).length = 4 + (packB f.id).length + (vint (BitVec.ofNat 64 f.da.length)).length + f.da.length + 8 := by
  rw [seB, List.length_append, hdB_length, sumB_length]
theorem seB_pos (f : Fl) : 12 ≤ (seB f).length := by rw [seB_length]; omega
theorem da_nat {n : Nat} (h : n ≤ 65536) : (BitVec.ofNat 64 n).toNat = n := by rw [BitVec.toNat_ofNat]; omega
/-- a sealed form is read back, whatever follows -/
theorem fi_se {f : Fl} (h : OkF f) (r : List (BitVec 8)) : fiB (seB f ++ r) = .ok (f, (seB f).length) := by
  obtain ⟨⟨h1, h2⟩, hi, hd, ho⟩ := h
  have hk := kd_byte ⟨h1, h2⟩
  have e0 : seB f ++ r = ltL ++ (BitVec.ofInt 8 f.k :: (packB f.id ++ (vint (BitVec.ofNat 64 f.da.length) ++ (f.da ++ (sumB (hdB f) ++ r))))) := by
    simp only [seB, hdB, List.append_assoc, List.cons_append]
  have e1 : (seB f ++ r).drop 3 = BitVec.ofInt 8 f.k :: (packB f.id ++ (vint (BitVec.ofNat 64 f.da.length) ++ (f.da ++ (sumB (hdB f) ++ r)))) := by
    rw [e0]; rfl
  have hn := da_nat hd
  have hlen : (seB f ++ r).length - ((f.da ++ (sumB (hdB f) ++ r)).length - f.da.length) = (hdB f).length := by
    simp only [List.length_append, sumB_length, seB]; omega
  have ht : (seB f ++ r).take (hdB f).length = hdB f := by rw [seB, List.append_assoc, List.take_left]
  rw [fiB]
  have e2 : ltB (seB f ++ r) = .ok () := by rw [e0]; exact lt_app _
  rw [e2]
  simp only
  rw [e1]
  simp only
  rw [if_neg (by omega), unp_pack ho (by omega)]
  simp only [List.drop_left]
  rw [if_neg (by omega), rd_vint]
  simp only [List.drop_left]
  rw [if_neg (by omega), fi2, hn, hlen, ht, if_neg (by simp only [List.length_append, sumB_length]; omega), List.drop_left, if_pos (by rw [List.take_left' (sumB_length _)]), List.take_left, hk, seB, List.length_append, sumB_length]
theorem vint_pos (u : BitVec 64) : 0 < (vint u).length := by
  rw [vint]; split <;> simp
/-- what is accepted is a sealed form -/
theorem fi_ok {bs : List (BitVec 8)} {f : Fl} {n : Nat} (h : fiB bs = .ok (f, n)) : OkF f ∧ seB f ++ bs.drop n = bs ∧ n = (seB f).length := by
  rw [fiB] at h
  cases h1 : ltB bs with
  | error e => rw [h1] at h; cases h
  | ok _ =>
    rw [h1] at h
    simp only at h
    have hl := ltGo_len h1
    simp only [ltL, List.length_cons, List.length_nil] at hl
    cases h2 : bs.drop 3 with
    | nil => rw [h2] at h; cases h
    | cons x t =>
      rw [h2] at h
      simp only at h
      split at h
      · cases h
      · rename_i hx
        cases h3 : unpB t with
        | error e => rw [h3] at h; cases h
        | ok p =>
          obtain ⟨l, k⟩ := p
          rw [h3] at h
          simp only at h
          split at h
          · cases h
          · rename_i hll
            cases h4 : rdB (t.drop k) with
            | error e => rw [h4] at h; cases h
            | ok p =>
              obtain ⟨u, j⟩ := p
              rw [h4] at h
              simp only at h
              split at h
              · cases h
              · rename_i hu
                rw [fi2] at h
                split at h
                · cases h
                · rename_i hr
                  split at h
                  · rename_i hs
                    simp only [Except.ok.injEq, Prod.mk.injEq] at h
                    obtain ⟨rfl, rfl⟩ := h
                    have c1 := unp_canon' h3
                    have c2 := rd_canon h4
                    have c3 := unp_off h3
                    generalize hq : (t.drop k).drop j = q at *
                    have eb : bs = ltL ++ (x :: (packB l ++ (vint u ++ q))) := by
                      have : bs.take 3 ++ bs.drop 3 = bs := List.take_append_drop _ _
                      rw [h2] at this
                      rw [← this, show bs.take 3 = ltL from hl.2, c2.1, c1.2]
                    have hql : (q.take u.toNat).length = u.toNat := by rw [List.length_take]; omega
                    have ed : BitVec.ofNat 64 (q.take u.toNat).length = u := by rw [hql]; simp
                    have ex : BitVec.ofInt 8 (x.toNat : Int) = x := by
                      apply BitVec.eq_of_toNat_eq
                      rw [BitVec.toNat_ofInt]
                      have := x.isLt
                      omega
                    have ehd : hdB ⟨x.toNat, l, q.take u.toNat⟩ = ltL ++ (x :: (packB l ++ (vint u ++ q.take u.toNat))) := by
                      simp only [hdB]; rw [ed, ex]
                    have e3 : hdB ⟨x.toNat, l, q.take u.toNat⟩ ++ q.drop u.toNat = bs := by
                      rw [ehd, eb]
                      simp only [List.append_assoc, List.cons_append, List.take_append_drop]
                    have e4 : bs.length - (q.length - u.toNat) = (hdB ⟨x.toNat, l, q.take u.toNat⟩).length := by
                      have := congrArg List.length e3
                      simp only [List.length_append, List.length_drop] at this
                      omega
                    have e5 : bs.take (hdB ⟨x.toNat, l, q.take u.toNat⟩).length = hdB ⟨x.toNat, l, q.take u.toNat⟩ := by
                      rw [← e3, List.take_left]
                    rw [e4, e5] at hs
                    refine ⟨⟨by simp only; omega, by simp only; omega, by simp only [hql]; omega, c1.1.2⟩, ?_, by rw [e4, seB, List.length_append, sumB_length]⟩
                    rw [e4, seB, List.append_assoc, ← List.drop_drop]
                    have e6 : bs.drop (hdB ⟨x.toNat, l, q.take u.toNat⟩).length = q.drop u.toNat := by
                      rw [← e3, List.drop_left]
                    rw [e6, hs, List.take_append_drop, e3]
                  · cases h
theorem rotE_err {e : Int} (h : e = 5 ∨ e = 7) : rotE e = 7 ∨ rotE e = 8 := by rcases h with rfl | rfl <;> simp [rotE]
theorem fi_err {bs : List (BitVec 8)} {e : Int} (h : fiB bs = .error e) : e = 7 ∨ e = 8 := by
  rw [fiB] at h
  cases h1 : ltB bs with
  | error e =>
    rw [h1] at h
    simp only [Except.error.injEq] at h
    subst h
    exact ltGo_err h1
  | ok _ =>
    rw [h1] at h
    simp only at h
    split at h
    · simp only [Except.error.injEq] at h; exact .inl h.symm
    · split at h
      · simp only [Except.error.injEq] at h; exact .inr h.symm
      · split at h
        · rename_i e1 he1
          simp only [Except.error.injEq] at h
          subst h; exact rotE_err (unp_err he1)
        · split at h
          · simp only [Except.error.injEq] at h; exact .inr h.symm
          · split at h
            · rename_i e1 he1
              simp only [Except.error.injEq] at h
              subst h; exact rotE_err (rd_err he1)
            · split at h
              · simp only [Except.error.injEq] at h; exact .inr h.symm
              · rw [fi2] at h
                split at h
                · simp only [Except.error.injEq] at h; exact .inl h.symm
                · split at h
                  · cases h
                  · simp only [Except.error.injEq] at h; exact .inr h.symm
/-- every proper beginning is cut short -/
theorem fi_short {f : Fl} (hf : OkF f) {m : Nat} (hm : m < (seB f).length) : fiB ((seB f).take m) = .error 7 := by
  obtain ⟨⟨h1, h2⟩, hi, hd, ho⟩ := hf
  have hk := kd_byte ⟨h1, h2⟩
  have hn := da_nat hd
  have hsl := seB_length f
  have e0 : seB f = ltL ++ (BitVec.ofInt 8 f.k :: (packB f.id ++ (vint (BitVec.ofNat 64 f.da.length) ++ (f.da ++ sumB (hdB f))))) := by
    simp only [seB, hdB, List.append_assoc, List.cons_append]
  by_cases hm3 : m < 3
  · have : ltB ((seB f).take m) = .error 7 := by
      rw [e0]
      rcases (by omega : m = 0 ∨ m = 1 ∨ m = 2) with rfl | rfl | rfl <;> simp [ltB, ltL, ltGo]
    rw [fiB, this]
  · obtain ⟨m, rfl⟩ : ∃ q, m = 3 + q := ⟨m - 3, by omega⟩
    have e1 : (seB f).take (3 + m) = ltL ++ (BitVec.ofInt 8 f.k :: (packB f.id ++ (vint (BitVec.ofNat 64 f.da.length) ++ (f.da ++ sumB (hdB f))))).take m := by
      rw [e0, show 3 = ltL.length from rfl, List.take_length_add_append]
    generalize hbs : (seB f).take (3 + m) = bs at *
    have e2 : ltB bs = .ok () := by rw [e1]; exact lt_app _
    have e3 : bs.drop 3 = (BitVec.ofInt 8 f.k :: (packB f.id ++ (vint (BitVec.ofNat 64 f.da.length) ++ (f.da ++ sumB (hdB f))))).take m := by rw [e1]; rfl
    rw [fiB, e2]
    simp only
    rw [e3]
    cases m with
    | zero => rfl
    | succ m =>
      rw [List.take_succ_cons]
      simp only
      rw [if_neg (by omega)]
      by_cases hp : m < (packB f.id).length
      · rw [List.take_append_of_le_length (by omega), unp_short (by omega) m hp]
        rfl
      · obtain ⟨m, rfl⟩ : ∃ q, m = (packB f.id).length + q := ⟨m - (packB f.id).length, by omega⟩
        rw [List.take_length_add_append, unp_pack ho (by omega)]
        simp only [List.drop_left]
        rw [if_neg (by omega)]
        by_cases hv : m < (vint (BitVec.ofNat 64 f.da.length)).length
        · rw [List.take_append_of_le_length (by omega), rd_short _ m hv]
          rfl
        · obtain ⟨m, rfl⟩ : ∃ q, m = (vint (BitVec.ofNat 64 f.da.length)).length + q := ⟨m - (vint (BitVec.ofNat 64 f.da.length)).length, by omega⟩
          rw [List.take_length_add_append, rd_vint]
          simp only [List.drop_left]
          rw [if_neg (by omega), fi2, if_pos]
          rw [hn, List.length_take, List.length_append, sumB_length]
          omega

/-! ### One byte changed -/
theorem sum_inj {a b : List (BitVec 8)} (h : sumB a = sumB b) : dgB a = dgB b := by
  have key : ∀ (k : Nat) (x y : Nat), leB x k = leB y k → x % 256 ^ k = y % 256 ^ k := by
    intro k
    induction k with
    | zero => intro x y _; simp [Nat.mod_one]
    | succ k ih =>
      intro x y h
      rw [leB, leB, List.cons.injEq] at h
      have h1 := congrArg BitVec.toNat h.1
      simp only [BitVec.toNat_ofNat] at h1
      have h2 := ih _ _ h.2
      rw [Nat.pow_succ, Nat.mul_comm, Nat.mod_mul, Nat.mod_mul, h2]
      omega
  have := key 8 _ _ h
  apply BitVec.eq_of_toNat_eq
  have e1 := (dgB a).isLt
  have e2 := (dgB b).isLt
  omega
theorem dgB_set (bs : List (BitVec 8)) (i : Nat) (hi : i < bs.length) (x : BitVec 8) : dgB bs = dgB (bs.set i x) ↔ bs[i] = x := by
  have := dbytes_one bs i hi x 0x6279746573#64
  unfold dgB
  exact this
/-- a sealed form with another byte is no sealed form -/
theorem se_set {f g : Fl} {i : Nat} (hi : i < (seB f).length) {x : BitVec 8} (h : (seB f).set i x = seB g) : (seB f)[i] = x := by
  have hl := congrArg List.length h
  rw [List.length_set] at hl
  have hh : (hdB f).length = (hdB g).length := by
    simp only [seB, List.length_append, sumB_length] at hl; omega
  rw [seB] at h
  rw [seB] at h
  by_cases hp : i < (hdB f).length
  · rw [List.set_append_left _ _ hp] at h
    obtain ⟨h1, h2⟩ := List.append_inj h (by simpa using hh)
    have h3 := sum_inj h2
    rw [← h1, dgB_set _ _ hp] at h3
    simp only [seB]
    rw [List.getElem_append_left hp]
    exact h3
  · rw [List.set_append_right _ _ (by omega)] at h
    obtain ⟨h1, h2⟩ := List.append_inj h hh
    simp only [seB]
    rw [List.getElem_append_right (by omega)]
    rw [← h1] at h2
    have h3 : i - (hdB f).length < (sumB (hdB f)).length := by
      simp only [seB, List.length_append] at hi; omega
    have := congrArg (fun l => l[i - (hdB f).length]?) h2
    simp only [List.getElem?_set_self h3] at this
    rw [List.getElem?_eq_getElem h3] at this
    exact (Option.some.inj this).symm

/-! ### Many -/
def spG : Nat → List (BitVec 8) → List Fl × List (BitVec 8)
  | 0, bs => ([], bs)
  | n + 1, bs => match fiB bs with
    | .error _ => ([], bs)
    | .ok (f, k) => (f :: (spG n (bs.drop k)).1, (spG n (bs.drop k)).2)
/-- the files that bytes begin with, and the rest -/
def spB (bs : List (BitVec 8)) : List Fl × List (BitVec 8) := spG bs.length bs
theorem fi_len {bs : List (BitVec 8)} {f : Fl} {n : Nat} (h : fiB bs = .ok (f, n)) : 12 ≤ n ∧ n ≤ bs.length := by
  obtain ⟨_, h2, rfl⟩ := fi_ok h
  refine ⟨seB_pos f, ?_⟩
  have := congrArg List.length h2
  simp only [List.length_append, List.length_drop] at this
  omega
theorem spG_more : ∀ (n m : Nat) (bs : List (BitVec 8)), bs.length ≤ n → bs.length ≤ m → spG n bs = spG m bs
  | 0, 0, bs, _, _ => rfl
  | 0, m + 1, bs, h, _ => by
    obtain rfl : bs = [] := List.length_eq_zero_iff.1 (by omega)
    rfl
  | n + 1, 0, bs, _, h => by
    obtain rfl : bs = [] := List.length_eq_zero_iff.1 (by omega)
    rfl
  | n + 1, m + 1, bs, h1, h2 => by
    rw [spG, spG]
    cases h : fiB bs with
    | error e => rfl
    | ok p =>
      obtain ⟨f, k⟩ := p
      have := fi_len h
      simp only
      rw [spG_more n m (bs.drop k) (by simp; omega) (by simp; omega)]
theorem sp_ok {bs : List (BitVec 8)} {f : Fl} {k : Nat} (h : fiB bs = .ok (f, k)) : spB bs = (f :: (spB (bs.drop k)).1, (spB (bs.drop k)).2) := by
  have hl := fi_len h
  obtain ⟨n, hn⟩ : ∃ n, bs.length = n + 1 := ⟨bs.length - 1, by omega⟩
  rw [spB, hn, spG, h]
  simp only
  rw [spB, spG_more n (bs.drop k).length (bs.drop k) (by simp; omega) (Nat.le_refl _)]
theorem sp_err {bs : List (BitVec 8)} {e : Int} (h : fiB bs = .error e) : spB bs = ([], bs) := by
  rw [spB]
  cases hn : bs.length with
  | zero => rfl
  | succ n => rw [spG, h]
theorem sp_app : ∀ (fs : List Fl) (r : List (BitVec 8)), (∀ f ∈ fs, OkF f) → spB (fs.flatMap seB ++ r) = (fs ++ (spB r).1, (spB r).2)
  | [], r, _ => by simp
  | f :: fs, r, h => by
    have h1 := fi_se (h f (by simp)) (fs.flatMap seB ++ r)
    have e : (f :: fs).flatMap seB ++ r = seB f ++ (fs.flatMap seB ++ r) := by simp
    rw [e, sp_ok h1, List.drop_left, sp_app fs r (fun g hg => h g (by simp [hg]))]
    simp
theorem fi_nil : fiB [] = .error 7 := by rfl
end Go.Proofs.Ytdngfkmigpnbnaa
