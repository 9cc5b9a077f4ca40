/- More rules: slice expressions, min and max, append. -/
import Derived.Test.YtjdbdjmfimbbkaaRange
set_option linter.unusedVariables false
set_option linter.unusedSimpArgs false
namespace Go.Proofs.Ytjdbdjmfimbbkaa
open Go.RowKit

instance isN_add (a b : Int) (i j : Nat) [ha : IsN a i] [hb : IsN b j] : IsN (a + b) (i + j) := ⟨by rw [ha.eq, hb.eq]; simp⟩
instance isN_mul (a b : Int) (i j : Nat) [ha : IsN a i] [hb : IsN b j] : IsN (a * b) (i * j) := ⟨by rw [ha.eq, hb.eq]; simp⟩

theorem IsN.iff {a : Int} {j : Nat} (h : IsN a j) : a = (j : Int) := h.eq

theorem wrap_id (n : Nat) (h : n < 9223372036854775808) : IntKind.u64.wrap (n : Int) = (n : Int) := by
  rw [wrap_u64]; simp; omega

theorem take_drop_map {α β : Type} (f : α → β) (xs : List α) (lo hi : Nat) : (xs.map f |>.drop lo).take (hi - lo) = ((xs.drop lo).take (hi - lo)).map f := by
  rw [List.map_take, List.map_drop]

/-- a part of a slice that reads -/
theorem Rd.part {w : World} {A : Option Addr} {n c : Nat} {xs : List Value} (h : Rd w (.slice A n c) 1 xs) (lo hi : Nat) (h1 : lo ≤ hi) (h2 : hi ≤ n) :
    Rd w (.slice (if c = lo then A else A.map (·.add lo)) (hi - lo) (c - lo)) 1 ((xs.drop lo).take (hi - lo)) := by
  obtain ⟨A', n', c', e, hl, hc, hm, hp⟩ := h
  cases e
  simp only [Nat.mul_one] at hl
  refine ⟨_, _, _, rfl, by simp; omega, by omega, by omega, fun hpos => ?_⟩
  have hlen : 0 < xs.length := by simp at hpos; omega
  obtain ⟨ad, rfl, hcell⟩ := hp hlen
  have hne : ¬ c = lo := by simp at hpos; omega
  refine ⟨ad.add lo, by simp [hne], fun j u hu => ?_⟩
  rw [List.getElem?_take] at hu
  split at hu
  · rw [List.getElem?_drop] at hu
    have := hcell (lo + j) u hu
    have e2 : (ad.add lo).add j = ad.add (lo + j) := by
      unfold Addr.add
      by_cases h0 : lo = 0
      · subst h0; simp
      · by_cases h1 : j = 0
        · subst h1; simp [h0]
        · have : ¬ lo + j = 0 := by omega
          simp [h0, h1, this, Nat.add_assoc]
    rw [e2]; exact this
  · cases hu

theorem at_part (A : Option Addr) (n c lo k : Nat) (b : Nat) (h : Value.at_ (.slice (if c = lo then A else A.map (·.add lo)) k (c - lo)) = some b) : Value.at_ (.slice A n c) = some b := by
  cases A with
  | none => split at h <;> simp [Value.at_] at h
  | some a =>
    split at h
    · simpa [Value.at_] using h
    · simpa [Value.at_, add_block] using h

theorem RdO.part {w0 : World} {O : List Nat} {A : Option Addr} {n c : Nat} {α : Type} {f : α → Value} {xs : List α} (h : RdO w0 O (.slice A n c) 1 (xs.map f)) (lo hi : Nat) (h1 : lo ≤ hi) (h2 : hi ≤ n) :
    RdO w0 O (.slice (if c = lo then A else A.map (·.add lo)) (hi - lo) (c - lo)) 1 (((xs.drop lo).take (hi - lo)).map f) := by
  refine ⟨by rw [← take_drop_map]; exact h.rd.part lo hi h1 h2, fun hp b hb => h.out ?_ b (at_part A n c lo _ b hb)⟩
  simp at hp ⊢
  omega

theorem RdS.part {w0 : World} {O : List Nat} {m : List As} {A : Option Addr} {n c : Nat} {α : Type} {f : α → Value} {xs : List α} (h : RdS w0 O m (.slice A n c) 1 (xs.map f)) (lo hi : Nat) (h1 : lo ≤ hi) (h2 : hi ≤ n) :
    RdS w0 O m (.slice (if c = lo then A else A.map (·.add lo)) (hi - lo) (c - lo)) 1 (((xs.drop lo).take (hi - lo)).map f) := fun w hw => by
  rw [← take_drop_map]; exact (h w hw).part lo hi h1 h2

section
variable {ro : Option Nat} {P : Program} {N : Nat} {D : List Deferred} {w0 : World} {O : List Nat} {ops : Array Oper} {l : List Oper} {s : List (Nat × Value)} {m : List As} {Q : Exit → Act → World → Prop}
variable {d : Nat} {ty : TypeId} {pos : String} {af : Array Edge}

theorem G_perm {m' : List As} (hp : List.Perm m m') (k : G ro P N D w0 O ops l s m' Q) : G ro P N D w0 O ops l s m Q := fun a w hs hd hm => k a w hs hd (hm.perm hp)
theorem GC_perm {c : Code} {m' : List As} (hp : List.Perm m m') (k : GC ro P N D w0 O c s m' Q) : GC ro P N D w0 O c s m Q := fun a w hs hd hm => k a w hs hd (hm.perm hp)
theorem At_perm {e : Exit} {m' : List As} (hp : List.Perm m m') (k : At N D w0 O e s m' Q) : At N D w0 O e s m Q := fun a w hs hd hm => k a w hs hd (hm.perm hp)
theorem G_drop {m' : List As} (hp : List.Sublist m' m) (k : G ro P N D w0 O ops l s m' Q) : G ro P N D w0 O ops l s m Q := fun a w hs hd hm => k a w hs hd (hm.drop hp)

/-- what is held, said of the world as it is -/
theorem St.self {w0 : World} {O : List Nat} {m : List As} {w : World} (h : St w0 O m w) : St w (feet m) m w :=
  ⟨rfl, rfl, rfl, Nat.le_refl _, fun _ _ _ => rfl, h.ok, h.nodup, fun b hb => .inr hb⟩

theorem run_slice {P : Program} {w : World} {t e : TypeId} {z : Value} {A : Option Addr} {n c lo hi : Nat} [ht : Und P t (.slice e)] [hS : Sc P e z] (h1 : lo ≤ hi) (h2 : hi ≤ c) (lo? hi? : Option Value)
    (hl : lo? = some (I lo) ∨ (lo? = none ∧ lo = 0)) (hh : hi? = some (I hi) ∨ (hi? = none ∧ hi = n)) :
    (Instr.sliceAt t (.slice A n c) lo? hi? none).run P w = .ok (.slice (if c = lo then A else A.map (·.add lo)) (hi - lo) (c - lo)) w := by
  have b1 : ∀ (k : Nat) (hk : hi ≤ k) (cd : BoundsCode), (Instr.sliceBound (I hi) k cd).run P w = .ok hi w := fun k hk cd => by
    have : (0 : Int) ≤ (hi : Int) ∧ (hi : Int) ≤ (k : Int) := by omega
    simp only [Instr.sliceBound, asIntOf, Sem.run_bind, Sem.run_pure, Result.andThen, if_pos this, Int.toNat_natCast]
  have b2 : ∀ (cd : BoundsCode), (Instr.sliceBound (I lo) hi cd).run P w = .ok lo w := fun cd => by
    have : (0 : Int) ≤ (lo : Int) ∧ (lo : Int) ≤ (hi : Int) := by omega
    simp only [Instr.sliceBound, asIntOf, Sem.run_bind, Sem.run_pure, Result.andThen, if_pos this, Int.toNat_natCast]
  have b3 : (Instr.sliceBounds true n c lo? hi? none).run P w = .ok (lo, hi, c) w := by
    rcases hl with rfl | ⟨rfl, rfl⟩ <;> rcases hh with rfl | ⟨rfl, rfl⟩ <;> simp [Instr.sliceBounds, b1 _ h2, b2]
  simp only [Instr.sliceAt, Instr.slice, Sem.run_bind, run_underlying ht.eq, Result.andThen, b3, run_sizeOf hS, Sem.run_pure, Nat.mul_one]

/-- x[lo:hi] of a slice that lay before -/
theorem G_slice_old {t e : TypeId} {z : Value} {x : Operand} {lo? hi? : Option Operand} {A : Option Addr} {n c lo hi : Nat} {α : Type} {f : α → Value} {xs : List α} [ht : Und P t (.slice e)] [hS : Sc P e z] (hx : ev s x = some (.slice A n c))
    (hR : RdO w0 O (.slice A n c) 1 (xs.map f)) (hl : lo?.bind (ev s) = some (I lo) ∨ (lo? = none ∧ lo = 0)) (hh : hi?.bind (ev s) = some (I hi) ∨ (hi? = none ∧ hi = n)) (h1 : lo ≤ hi) (h2 : hi ≤ n) (hN : Nat.blt d N = true)
    (k : ∀ A' c', RdO w0 O (.slice A' (hi - lo) c') 1 (((xs.drop lo).take (hi - lo)).map f) → c' ≤ c → G ro P N D w0 O ops l ((d, .slice A' (hi - lo) c') :: s) m Q) :
    G ro P N D w0 O ops (⟨some d, .slice t x lo? hi? none, ty, pos, af, none⟩ :: l) s m Q := by
  have hc : n ≤ c := by obtain ⟨A', n', c', e, _, hc, _⟩ := hR.rd; cases e; exact hc
  refine G_val _ rfl rfl (by simp) hN (fun a w hs hm => ?_) (k _ _ (hR.part lo hi h1 h2) (Nat.sub_le _ _))
  have := run_slice (P := P) (w := w) (t := t) (e := e) (A := A) (n := n) (c := c) (lo := lo) (hi := hi) h1 (by omega) (lo?.map a.eval) (hi?.map a.eval)
    (by
      rcases hl with hl | ⟨rfl, rfl⟩
      · cases lo? with
        | none => simp at hl
        | some o => left; simp at hl ⊢; exact hs.ev hl
      · right; simp)
    (by
      rcases hh with hh | ⟨rfl, rfl⟩
      · cases hi? with
        | none => simp at hh
        | some o => left; simp at hh ⊢; exact hs.ev hh
      · right; simp)
  simp only [execOp, hs.ev hx, Option.map_none, Sem.run_bind, this, Result.andThen, Sem.run_pure]

/-- x[lo:hi] of a slice that reads now -/
theorem G_slice {t e : TypeId} {z : Value} {x : Operand} {lo? hi? : Option Operand} {A : Option Addr} {n c lo hi : Nat} {α : Type} {f : α → Value} {xs : List α} [ht : Und P t (.slice e)] [hS : Sc P e z] (hx : ev s x = some (.slice A n c))
    (hR : RdS w0 O m (.slice A n c) 1 (xs.map f)) (hnc : n ≤ c) (hl : lo?.bind (ev s) = some (I lo) ∨ (lo? = none ∧ lo = 0)) (hh : hi?.bind (ev s) = some (I hi) ∨ (hi? = none ∧ hi = n)) (h1 : lo ≤ hi) (h2 : hi ≤ n) (hN : Nat.blt d N = true)
    (k : ∀ A' c', RdS w0 O m (.slice A' (hi - lo) c') 1 (((xs.drop lo).take (hi - lo)).map f) → c' ≤ c → G ro P N D w0 O ops l ((d, .slice A' (hi - lo) c') :: s) m Q) :
    G ro P N D w0 O ops (⟨some d, .slice t x lo? hi? none, ty, pos, af, none⟩ :: l) s m Q := by
  refine G_val _ rfl rfl (by simp) hN (fun a w hs hm => ?_) (k _ _ (hR.part lo hi h1 h2) (Nat.sub_le _ _))
  have := run_slice (P := P) (w := w) (t := t) (e := e) (A := A) (n := n) (c := c) (lo := lo) (hi := hi) h1 (by omega) (lo?.map a.eval) (hi?.map a.eval)
    (by
      rcases hl with hl | ⟨rfl, rfl⟩
      · cases lo? with
        | none => simp at hl
        | some o => left; simp at hl ⊢; exact hs.ev hl
      · right; simp)
    (by
      rcases hh with hh | ⟨rfl, rfl⟩
      · cases hi? with
        | none => simp at hh
        | some o => left; simp at hh ⊢; exact hs.ev hh
      · right; simp)
  simp only [execOp, hs.ev hx, Option.map_none, Sem.run_bind, this, Result.andThen, Sem.run_pure]

/-! tests that are decided -/
theorem G_lss_t {t t' : TypeId} {x y : Operand} {kk : IntKind} {a b : Int} (hx : ev s x = some (.int kk a)) (hy : ev s y = some (.int kk b)) (h : a < b) (hN : Nat.blt d N = true)
    (k : G ro P N D w0 O ops l ((d, .bool true) :: s) m Q) : G ro P N D w0 O ops (⟨some d, .binOp .lss t x y t', ty, pos, af, none⟩ :: l) s m Q := G_lss hx hy hN (by rw [decide_eq_true h]; exact k)
theorem G_lss_f {t t' : TypeId} {x y : Operand} {kk : IntKind} {a b : Int} (hx : ev s x = some (.int kk a)) (hy : ev s y = some (.int kk b)) (h : ¬ a < b) (hN : Nat.blt d N = true)
    (k : G ro P N D w0 O ops l ((d, .bool false) :: s) m Q) : G ro P N D w0 O ops (⟨some d, .binOp .lss t x y t', ty, pos, af, none⟩ :: l) s m Q := G_lss hx hy hN (by rw [decide_eq_false h]; exact k)
theorem G_leq_t {t t' : TypeId} {x y : Operand} {kk : IntKind} {a b : Int} (hx : ev s x = some (.int kk a)) (hy : ev s y = some (.int kk b)) (h : a ≤ b) (hN : Nat.blt d N = true)
    (k : G ro P N D w0 O ops l ((d, .bool true) :: s) m Q) : G ro P N D w0 O ops (⟨some d, .binOp .leq t x y t', ty, pos, af, none⟩ :: l) s m Q := G_leq hx hy hN (by rw [decide_eq_true h]; exact k)
theorem G_leq_f {t t' : TypeId} {x y : Operand} {kk : IntKind} {a b : Int} (hx : ev s x = some (.int kk a)) (hy : ev s y = some (.int kk b)) (h : ¬ a ≤ b) (hN : Nat.blt d N = true)
    (k : G ro P N D w0 O ops l ((d, .bool false) :: s) m Q) : G ro P N D w0 O ops (⟨some d, .binOp .leq t x y t', ty, pos, af, none⟩ :: l) s m Q := G_leq hx hy hN (by rw [decide_eq_false h]; exact k)
theorem G_gtr_t {t t' : TypeId} {x y : Operand} {kk : IntKind} {a b : Int} (hx : ev s x = some (.int kk a)) (hy : ev s y = some (.int kk b)) (h : b < a) (hN : Nat.blt d N = true)
    (k : G ro P N D w0 O ops l ((d, .bool true) :: s) m Q) : G ro P N D w0 O ops (⟨some d, .binOp .gtr t x y t', ty, pos, af, none⟩ :: l) s m Q := G_gtr hx hy hN (by rw [decide_eq_true h]; exact k)
theorem G_gtr_f {t t' : TypeId} {x y : Operand} {kk : IntKind} {a b : Int} (hx : ev s x = some (.int kk a)) (hy : ev s y = some (.int kk b)) (h : ¬ b < a) (hN : Nat.blt d N = true)
    (k : G ro P N D w0 O ops l ((d, .bool false) :: s) m Q) : G ro P N D w0 O ops (⟨some d, .binOp .gtr t x y t', ty, pos, af, none⟩ :: l) s m Q := G_gtr hx hy hN (by rw [decide_eq_false h]; exact k)
theorem G_geq_t {t t' : TypeId} {x y : Operand} {kk : IntKind} {a b : Int} (hx : ev s x = some (.int kk a)) (hy : ev s y = some (.int kk b)) (h : b ≤ a) (hN : Nat.blt d N = true)
    (k : G ro P N D w0 O ops l ((d, .bool true) :: s) m Q) : G ro P N D w0 O ops (⟨some d, .binOp .geq t x y t', ty, pos, af, none⟩ :: l) s m Q := G_geq hx hy hN (by rw [decide_eq_true h]; exact k)
theorem G_geq_f {t t' : TypeId} {x y : Operand} {kk : IntKind} {a b : Int} (hx : ev s x = some (.int kk a)) (hy : ev s y = some (.int kk b)) (h : ¬ b ≤ a) (hN : Nat.blt d N = true)
    (k : G ro P N D w0 O ops l ((d, .bool false) :: s) m Q) : G ro P N D w0 O ops (⟨some d, .binOp .geq t x y t', ty, pos, af, none⟩ :: l) s m Q := G_geq hx hy hN (by rw [decide_eq_false h]; exact k)
theorem G_eql_t {t t' : TypeId} {x y : Operand} {kk : IntKind} {a b : Int} (hx : ev s x = some (.int kk a)) (hy : ev s y = some (.int kk b)) (h : a = b) (hN : Nat.blt d N = true)
    (k : G ro P N D w0 O ops l ((d, .bool true) :: s) m Q) : G ro P N D w0 O ops (⟨some d, .binOp .eql t x y t', ty, pos, af, none⟩ :: l) s m Q := G_eql hx hy hN (by rw [decide_eq_true h]; exact k)
theorem G_eql_f {t t' : TypeId} {x y : Operand} {kk : IntKind} {a b : Int} (hx : ev s x = some (.int kk a)) (hy : ev s y = some (.int kk b)) (h : ¬ a = b) (hN : Nat.blt d N = true)
    (k : G ro P N D w0 O ops l ((d, .bool false) :: s) m Q) : G ro P N D w0 O ops (⟨some d, .binOp .eql t x y t', ty, pos, af, none⟩ :: l) s m Q := G_eql hx hy hN (by rw [decide_eq_false h]; exact k)
theorem G_neq_t {t t' : TypeId} {x y : Operand} {kk : IntKind} {a b : Int} (hx : ev s x = some (.int kk a)) (hy : ev s y = some (.int kk b)) (h : ¬ a = b) (hN : Nat.blt d N = true)
    (k : G ro P N D w0 O ops l ((d, .bool true) :: s) m Q) : G ro P N D w0 O ops (⟨some d, .binOp .neq t x y t', ty, pos, af, none⟩ :: l) s m Q := G_neq hx hy hN (by rw [decide_eq_true h]; exact k)
theorem G_neq_f {t t' : TypeId} {x y : Operand} {kk : IntKind} {a b : Int} (hx : ev s x = some (.int kk a)) (hy : ev s y = some (.int kk b)) (h : a = b) (hN : Nat.blt d N = true)
    (k : G ro P N D w0 O ops l ((d, .bool false) :: s) m Q) : G ro P N D w0 O ops (⟨some d, .binOp .neq t x y t', ty, pos, af, none⟩ :: l) s m Q := G_neq hx hy hN (by rw [decide_eq_false (fun hn => hn h)]; exact k)

/-! quotients and remainders -/
theorem G_rem {t t' : TypeId} {x y : Operand} {a b r : Int} (hx : ev s x = some (I a)) (hy : ev s y = some (I b)) (hb : ¬ b = 0) (hN : Nat.blt d N = true) (he : a.tmod b = r)
    (k : G ro P N D w0 O ops l ((d, I r) :: s) m Q) : G ro P N D w0 O ops (⟨some d, .binOp .rem t x y t', ty, pos, af, none⟩ :: l) s m Q :=
  G_bin (I r) hx hy hN (fun w => by subst he; simp [binOp, Op.intDiv, hb]) k
theorem G_quo {t t' : TypeId} {x y : Operand} {a b r : Int} (hx : ev s x = some (I a)) (hy : ev s y = some (I b)) (hb : ¬ b = 0) (hN : Nat.blt d N = true) (he : IntKind.i64.wrap (a.tdiv b) = r)
    (k : G ro P N D w0 O ops l ((d, I r) :: s) m Q) : G ro P N D w0 O ops (⟨some d, .binOp .quo t x y t', ty, pos, af, none⟩ :: l) s m Q :=
  G_bin (I r) hx hy hN (fun w => by subst he; simp [binOp, Op.intDiv, hb]) k
theorem G_rem64 {t t' : TypeId} {x y : Operand} {a b : Int} {p q : BitVec 64} (hx : ev s x = some (.int .u64 a)) (hy : ev s y = some (.int .u64 b)) (ha : a = (p.toNat : Int)) (hb : b = (q.toNat : Int)) (hq : ¬ q.toNat = 0) (hN : Nat.blt d N = true)
    (k : G ro P N D w0 O ops l ((d, U (p % q)) :: s) m Q) : G ro P N D w0 O ops (⟨some d, .binOp .rem t x y t', ty, pos, af, none⟩ :: l) s m Q :=
  G_bin _ hx hy hN (fun w => by
    subst ha hb
    have h0 : ¬ (q.toNat : Int) = 0 := by omega
    simp only [binOp, ne_eq, not_true, if_false, Op.intDiv, h0, Sem.run_pure]
    have e : ((p.toNat : Int)).tmod (q.toNat : Int) = ((p % q).toNat : Int) := by
      rw [BitVec.toNat_umod]; rfl
    rw [e]) k
theorem G_quo64 {t t' : TypeId} {x y : Operand} {a b : Int} {p q : BitVec 64} (hx : ev s x = some (.int .u64 a)) (hy : ev s y = some (.int .u64 b)) (ha : a = (p.toNat : Int)) (hb : b = (q.toNat : Int)) (hq : ¬ q.toNat = 0) (hN : Nat.blt d N = true)
    (k : G ro P N D w0 O ops l ((d, U (p / q)) :: s) m Q) : G ro P N D w0 O ops (⟨some d, .binOp .quo t x y t', ty, pos, af, none⟩ :: l) s m Q :=
  G_bin _ hx hy hN (fun w => by
    subst ha hb
    have h0 : ¬ (q.toNat : Int) = 0 := by omega
    simp only [binOp, ne_eq, not_true, if_false, Op.intDiv, h0, Sem.run_pure]
    have e : ((p.toNat : Int)).tdiv (q.toNat : Int) = ((p / q).toNat : Int) := by
      rw [BitVec.toNat_udiv]; rfl
    rw [e, wrap_u64_nat]) k

/-- a count as an unsigned number -/
theorem G_int_u64n {t t' : TypeId} {x : Operand} {kx : IntKind} {n : Nat} {ut : TypeDesc} [h1 : Und P t ut] [h2 : Und P t' (.int .u64)] (hx : ev s x = some (.int kx (n : Int))) (hn : n < 9223372036854775808) (hN : Nat.blt d N = true)
    (k : G ro P N D w0 O ops l ((d, .int .u64 (n : Int)) :: s) m Q) : G ro P N D w0 O ops (⟨some d, .convert t t' x, ty, pos, af, none⟩ :: l) s m Q :=
  G_conv _ hx hN (wrap_id n hn) k

/-- []byte of a constant string: the bytes' block gets a mark behind its end -/
theorem G_convBytes {t e : TypeId} {x : Operand} {b n c : Nat} {cs : Array Value} {m' : List As} [ht : Und P t (.slice e)] [he : Und P e (.int .u8)] (hx : ev s x = some (.slice (some ⟨b, 0, none⟩) n c)) {eb : TypeId}
    [hh : Held b m (.cells cs eb)] [hm : PutC b (.cells cs eb (cs.size, cs.size + 1)) m m'] (hN : Nat.blt d N = true) (k : G ro P N D w0 O ops l ((d, .slice (some ⟨b, 0, none⟩) n c) :: s) m' Q) :
    G ro P N D w0 O ops (⟨some d, .convert t t x, ty, pos, af, none⟩ :: l) s m Q :=
  G_any (ι := Unit) (fun _ => .slice (some ⟨b, 0, none⟩) n c) (fun _ => m') (fun _ => True) rfl rfl (by simp) hN (fun a w hs hw => by
    obtain ⟨o, m1, m2, rfl, rfl⟩ := hm.form
    have hb : w.heap[b]? = some (.cells cs eb) := hw.ok (.box b (.cells cs eb)) hh.mem
    have hsh : w.shape? b = some (eb, cs.size) := by simp [World.shape?, hb]
    have hfr : (w.freeze ⟨b, cs.size, none⟩ 1).heap[b]? = some (.cells cs eb (cs.size, cs.size + 1)) := by simp [World.freeze, Array.getElem?_modify, hb]
    have hg : w.grownBy (w.freeze ⟨b, cs.size, none⟩ 1) (some b) := ⟨rfl, rfl, rfl, by simp [World.freeze], fun j hj hne => by
      have : ¬ b = j := fun e => hne (by rw [e])
      simp [World.freeze, Array.getElem?_modify, this]⟩
    refine ⟨(), w.freeze ⟨b, cs.size, none⟩ 1, trivial, ?_, hw.set hg hfr⟩
    simp [execOp, hs.ev hx, convert, run_underlying ht.eq, run_underlying he.eq, markStringish, hsh]) (fun _ _ => k)

theorem G_min {x y : Operand} {t t' : TypeId} {kk : IntKind} {a b r : Int} (hx : ev s x = some (.int kk a)) (hy : ev s y = some (.int kk b)) (hN : Nat.blt d N = true) (hr : min a b = r) (k : G ro P N D w0 O ops l ((d, .int kk r) :: s) m Q) :
    G ro P N D w0 O ops (⟨some d, .call ⟨.builtin .min, #[x, y], #[t, t']⟩, ty, pos, af, none⟩ :: l) s m Q :=
  G_val _ rfl rfl (by simp) hN (fun a' w hs hm => by
    have e : (if b < a then b else a) = r := by rw [← hr]; split <;> omega
    simp [execOp, resolve, invoke, builtin, Builtin.min_, Builtin.min2, hs.ev hx, hs.ev hy, e]) k
theorem G_max {x y : Operand} {t t' : TypeId} {kk : IntKind} {a b r : Int} (hx : ev s x = some (.int kk a)) (hy : ev s y = some (.int kk b)) (hN : Nat.blt d N = true) (hr : max a b = r) (k : G ro P N D w0 O ops l ((d, .int kk r) :: s) m Q) :
    G ro P N D w0 O ops (⟨some d, .call ⟨.builtin .max, #[x, y], #[t, t']⟩, ty, pos, af, none⟩ :: l) s m Q :=
  G_val _ rfl rfl (by simp) hN (fun a' w hs hm => by
    have e : (if a < b then b else a) = r := by rw [← hr]; split <;> omega
    simp [execOp, resolve, invoke, builtin, Builtin.max_, Builtin.max2, hs.ev hx, hs.ev hy, e]) k

end
end Go.Proofs.Ytjdbdjmfimbbkaa
