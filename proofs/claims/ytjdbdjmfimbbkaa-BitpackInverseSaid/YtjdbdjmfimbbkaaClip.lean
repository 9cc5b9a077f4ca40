/- Full slice expressions; append onto a slice without spare room. -/
import Derived.Test.YtjdbdjmfimbbkaaByte
set_option linter.unusedVariables false
set_option linter.unusedSimpArgs false
namespace Go.Proofs.Ytjdbdjmfimbbkaa
open Go.RowKit

section
variable {ro : Option Nat} {P : Program} {N : Nat} {D : List Deferred} {w0 : World} {O : List Nat} {ops : Array Oper} {l : List Oper} {s : List (Nat × Value)} {m : List As} {Q : Exit → Act → World → Prop}
variable {d : Nat} {ty : TypeId} {pos : String} {af : Array Edge}

/-- append onto a slice that reads and has no spare room: a new row -/
theorem G_append_full {t e : TypeId} {z : Value} {bs : Nat} {x y : Operand} {A : Option Addr} {u : Value} {n k : Nat} {xs ys : List Value} [ht : Und P t (.slice e)] [hR : Rw P e [z] bs] (hx : ev s x = some (.slice A n n)) (hy : ev s y = some u)
    (hxs : RdS w0 O m (.slice A n n) 1 xs) (hu : RdS w0 O m u 1 ys) (hk : ys.length = k) (hk0 : 0 < k) (h1 : ∀ c ∈ ys, c.oneCell' = true) (hb : (n + k) * bs ≤ 140737488355328) (hN : Nat.blt d N = true)
    (kk : ∀ v', G ro P N D w0 O ops l ((d, v') :: s) (.own v' e 1 (n + k) (xs ++ ys) :: m) Q) :
    G ro P N D w0 O ops (⟨some d, .call ⟨.builtin .append, #[x, y], #[t, t]⟩, ty, pos, af, none⟩ :: l) s m Q :=
  G_any (ι := Value) id (fun v' => .own v' e 1 (n + k) (xs ++ ys) :: m) (fun _ => True) rfl rfl (by simp) hN (fun a w hs hw => by
    obtain ⟨i, z', i1, i2, i3, i4, i5⟩ := hR.info
    obtain ⟨A0, n0, c0, e0, r1, r2, r3, r4⟩ := hxs w hw
    cases e0
    obtain ⟨B, q, c, rfl, s1, s2, s3, s4⟩ := hu w hw
    obtain rfl : q = k := by omega
    obtain ⟨bd, rfl, s5⟩ := s4 (by omega)
    have hi1 : i.size = 1 := i3
    have hsrc : Src P i.size t (.slice (some bd) q c) q ys w := by
      rw [hi1]
      exact Src.ofSlice w ht.eq bd q c ys s1 s5 h1
    have hold : (Builtin.firstCells i.size n (.slice A n n)).run P w.drew = .ok xs.toArray w.drew := by
      rw [hi1]
      by_cases h0 : 0 < xs.length
      · obtain ⟨ad, rfl, r5⟩ := r4 h0
        exact run_firstCells_some w.drew 1 n ad n n xs r1 (by simpa using r5)
      · have hx0 : xs = [] := List.eq_nil_of_length_eq_zero (by omega)
        subst hx0
        have hn0 : n = 0 := by simpa using r1.symm
        subst hn0
        cases A with
        | none => exact run_firstCells_none w.drew 1 0 0 0
        | some ad => exact run_firstCells_some w.drew 1 0 ad 0 0 [] (by simp) (by simp)
    have hmul : n + q ≤ (n + q) * bs := Nat.le_mul_of_pos_right _ hR.bpos
    have hfit := growslice_fits (need := n + q) (old := n) (bytes := bs) (by omega) hb
    have hrun := run_append_grow_src (P := P) w t t ty e i z' ht.eq i1 i2 A n n xs hold (.slice (some bd) q c) q ys hsrc (by omega) (by omega) (by rw [i4]; exact hfit)
    have hge := grownCap_ge w (n + q) n e
    have hcm : grownCap w (n + q) n e ≤ maxLen := grownCap_le_maxLen w (n + q) n e (by simp only [maxLen]; omega)
    refine ⟨_, _, trivial, by simp [execOp, resolve, invoke, builtin, hs.ev hx, hs.ev hy, hrun]; exact ⟨rfl, rfl⟩, ?_⟩
    have hsz : ((xs ++ ys).toArray ++ Builtin.zeroCells z'.cells (grownCap w (n + q) n e - (n + q))).size = grownCap w (n + q) n e * 1 := by
      simp only [Array.size_append, List.size_toArray, List.length_append, size_zeroCells, i5, r1, s1]
      simp
      omega
    have hcell : (w.drew.alloc (.cells ((xs ++ ys).toArray ++ Builtin.zeroCells z'.cells (grownCap w (n + q) n e - (n + q))) e)).ownsRow 0 e 1 (.slice (some ⟨w.heap.size, 0, none⟩) (n + q) (grownCap w (n + q) n e)) (n + q) (xs ++ ys) := by
      refine ⟨by rw [List.length_append]; omega, .inr ⟨w.heap.size, _, _, rfl, Nat.zero_le _, heap_alloc_new w.drew _, hge, hcm, hsz, ?_⟩⟩
      simp only [Array.toList_append]
      rw [show (n + q) * 1 = (xs ++ ys).length by rw [List.length_append]; omega]
      exact List.take_left
    refine hw.grow (m' := [.own (.slice (some ⟨w.heap.size, 0, none⟩) (n + q) (grownCap w (n + q) n e)) e 1 (n + q) (xs ++ ys)]) ⟨rfl, rfl, rfl, by simp, fun k hk _ => Below.heap_alloc w.drew _ k hk, fun x hx => ?_, by simp [As.foot, Value.ownBlock], fun b hb => ?_⟩
    · simp only [List.mem_singleton] at hx
      subst hx
      exact hcell
    · simp [As.foot, Value.ownBlock] at hb
      exact .inl (by omega)) (fun v' _ => kk v')

theorem map_add0 (A : Option Addr) : A.map (·.add 0) = A := by cases A <;> simp [Addr.add]

/-- x[:n:n] of a slice of n elements -/
theorem G_clip {t e : TypeId} {z : Value} {x hi mx : Operand} {A : Option Addr} {n c : Nat} [ht : Und P t (.slice e)] [hS : Sc P e z] (hx : ev s x = some (.slice A n c)) (hh : ev s hi = some (I n)) (hm : ev s mx = some (I n)) (hnc : n ≤ c) (hN : Nat.blt d N = true)
    (k : G ro P N D w0 O ops l ((d, .slice A n n) :: s) m Q) :
    G ro P N D w0 O ops (⟨some d, .slice t x none (some hi) (some mx), ty, pos, af, none⟩ :: l) s m Q :=
  G_val (.slice A n n) rfl rfl (by simp) hN (fun a w hs hw => by
    have b1 : ∀ (k : Nat) (hk : n ≤ k) (cd : BoundsCode), (Instr.sliceBound (I n) k cd).run P w = .ok n w := fun k hk cd => by
      have : (0 : Int) ≤ (n : Int) ∧ (n : Int) ≤ (k : Int) := by omega
      simp only [Instr.sliceBound, asIntOf, Sem.run_bind, Sem.run_pure, Result.andThen, if_pos this, Int.toNat_natCast]
    have b3 : (Instr.sliceBounds true n c none (some (I n)) (some (I n))).run P w = .ok (0, n, n) w := by
      simp [Instr.sliceBounds, b1 c hnc, b1 n (Nat.le_refl _)]
    have : (Instr.sliceAt t (.slice A n c) none (some (I n)) (some (I n))).run P w = .ok (.slice A n n) w := by
      simp only [Instr.sliceAt, Instr.slice, Sem.run_bind, run_underlying ht.eq, Result.andThen, b3, run_sizeOf hS, Sem.run_pure, Nat.zero_mul, Nat.sub_zero]
      split <;> simp [map_add0]
    simp only [execOp, hs.ev hx, Option.map_none, Option.map_some, hs.ev hh, hs.ev hm, Sem.run_bind, this, Result.andThen, Sem.run_pure]) k
end
end Go.Proofs.Ytjdbdjmfimbbkaa
