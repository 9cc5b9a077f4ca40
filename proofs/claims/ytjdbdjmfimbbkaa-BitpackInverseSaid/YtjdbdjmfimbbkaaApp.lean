/- append, and rows of the call's own. -/
import Derived.Test.YtjdbdjmfimbbkaaEq
import Derived.Maps.AppendAt
import Derived.Deep.Upon
set_option linter.unusedVariables false
set_option linter.unusedSimpArgs false
namespace Go.Proofs.Ytjdbdjmfimbbkaa
open Go.RowKit

/-- an element's row: its zero cells, its bytes -/
class Rw (P : Program) (e : TypeId) (zs : outParam (List Value)) (by_ : outParam Nat) : Prop where
  ok : ∃ z, (P.info? e).map (fun i => (i.zero, i.size, i.bytes)) = some (some z, zs.length, by_) ∧ z.cells = zs.toArray
  pos : 0 < zs.length
  bpos : 0 < by_

theorem Rw.info {P : Program} {e : TypeId} {zs : List Value} {bs : Nat} (h : Rw P e zs bs) : ∃ i z, P.info? e = some i ∧ i.zero = some z ∧ i.size = zs.length ∧ i.bytes = bs ∧ z.cells = zs.toArray := by
  obtain ⟨z, h1, h2⟩ := h.ok
  cases hi : P.info? e with
  | none => rw [hi] at h1; cases h1
  | some i =>
    rw [hi] at h1
    simp only [Option.map_some, Option.some.injEq, Prod.mk.injEq] at h1
    exact ⟨i, z, rfl, h1.1, h1.2.1, h1.2.2, h2⟩

theorem St.append {w0 : World} {O : List Nat} {m mk : List As} {v v' : Value} {e : TypeId} {sz n n' : Nat} {xs ys : List Value} {w w' : World} (h : St w0 O m w) (hp : Take (.own v e sz n xs) m mk)
    (ho : w'.ownsRow 0 e sz v' n' ys) (hg : w.grownBy w' v.ownBlock) (hb : v'.ownBlock = v.ownBlock ∨ v'.ownBlock = some w.heap.size) : St w0 O (.own v' e sz n' ys :: mk) w' := by
  have h2 : St w v.ownBlock.toList [.own v' e sz n' ys] w' := by
    refine ⟨hg.os, hg.tape, hg.output, hg.size, fun k hk hkO => hg.block k hk fun e => hkO (by rw [← e]; simp), fun x hx => ?_, ?_, fun b hb' => ?_⟩
    · simp only [List.mem_singleton] at hx
      subst hx
      exact ho
    · cases h : v'.ownBlock <;> simp [As.foot, h]
    · simp only [List.flatMap_cons, List.flatMap_nil, List.append_nil, As.foot, Option.mem_toList] at hb'
      rcases hb with hb | hb
      · right
        rw [← hb]
        simpa using hb'
      · left
        rw [hb] at hb'
        simp at hb'
        omega
  exact h.step (mk := mk) (mg := [.own v e sz n xs]) h2 hp.perm (by simp [As.foot])

theorem own_le {w : World} {v : Value} {e : TypeId} {sz n : Nat} {xs : List Value} (h : w.ownsRow 0 e sz v n xs) : ∃ A c, v = .slice A n c ∧ n ≤ c := by
  rcases h.2 with ⟨rfl, rfl⟩ | ⟨g, cap, cur, rfl, _, _, h1, _⟩
  · exact ⟨none, 0, rfl, Nat.le_refl _⟩
  · exact ⟨_, cap, rfl, h1⟩

section
variable {ro : Option Nat} {P : Program} {N : Nat} {D : List Deferred} {w0 : World} {O : List Nat} {ops : Array Oper} {l : List Oper} {s : List (Nat × Value)} {m : List As} {Q : Exit → Act → World → Prop}
variable {d : Nat} {ty : TypeId} {pos : String} {af : Array Edge}

/-- append(v, u...) onto a row of the call's own. -/
theorem G_append {t e : TypeId} {zs : List Value} {bs : Nat} {x y : Operand} {v u : Value} {n k : Nat} {xs ys : List Value} {mk : List As} [ht : Und P t (.slice e)] [hR : Rw P e zs bs] (hx : ev s x = some v) (hy : ev s y = some u)
    (hp : Take (.own v e zs.length n xs) m mk) (hu : RdS w0 O m u zs.length ys) (hk : ys.length = k * zs.length) (h1 : ∀ c ∈ ys, c.oneCell' = true) (hb : (n + k) * bs ≤ 140737488355328) (hN : Nat.blt d N = true)
    (kk : ∀ v', G ro P N D w0 O ops l ((d, v') :: s) (.own v' e zs.length (n + k) (xs ++ ys) :: mk) Q) :
    G ro P N D w0 O ops (⟨some d, .call ⟨.builtin .append, #[x, y], #[t, t]⟩, ty, pos, af, none⟩ :: l) s m Q :=
  G_any (ι := Value) id (fun v' => .own v' e zs.length (n + k) (xs ++ ys) :: mk) (fun _ => True) rfl rfl (by simp) hN (fun a w hs hw => by
    obtain ⟨i, z, i1, i2, i3, i4, i5⟩ := hR.info
    have hown : w.ownsRow 0 e zs.length v n xs := hw.ok (.own v e zs.length n xs) (hp.perm.mem_iff.2 (by simp))
    obtain ⟨A, q, c, rfl, r1, r2, r3, r4⟩ := hu w hw
    have hq : q = k := by
      have := hR.pos
      exact Nat.eq_of_mul_eq_mul_right this (r1.symm.trans hk)
    subst hq
    have hmax : n + q ≤ maxLen := by
      have := Nat.le_mul_of_pos_right (n + q) hR.bpos
      simp only [maxLen]
      omega
    have key : ∃ v' w', (Builtin.append_ #[t, t] ty #[v, .slice A q c]).run P w = .ok v' w' ∧ w'.ownsRow 0 e zs.length v' (n + q) (xs ++ ys) ∧ w.grownBy w' v.ownBlock ∧ (v'.ownBlock = v.ownBlock ∨ v'.ownBlock = some w.heap.size) := by
      by_cases h0 : 0 < ys.length
      · obtain ⟨ad, rfl, r5⟩ := r4 h0
        obtain ⟨v', w', g1, g2, g3, _, g5⟩ := run_append_own_at (P := P) w 0 t ty e i z zs.length bs ht.eq i1 i2 i3 i4 (by rw [i5]; simp) hR.pos v n xs hown ad q c ys r1 r5 h1 hmax hb (Nat.zero_le _)
        exact ⟨v', w', g1, g2, g3, g5⟩
      · have hy0 : ys = [] := List.eq_nil_of_length_eq_zero (by omega)
        subst hy0
        have hq0 : q = 0 := by
          have := hR.pos
          rcases Nat.eq_zero_or_pos q with h | h
          · exact h
          · have := Nat.mul_pos h hR.pos; simp at r1; omega
        subst hq0
        obtain ⟨A', c', rfl, hle⟩ := own_le hown
        have hsrc : Src P i.size t (.slice A 0 c) 0 [] w := by
          cases A with
          | none => exact Src.ofNil w ht.eq c
          | some ad => exact Src.ofSlice w ht.eq ad 0 c [] (by simp) (by simp) (by simp)
        refine ⟨_, w, run_append_nothing w t t ty e i ht.eq i1 A' n c' hle _ hsrc, ?_, ⟨rfl, rfl, rfl, Nat.le_refl _, fun _ _ _ => rfl⟩, .inl rfl⟩
        simpa using hown
    obtain ⟨v', w', g1, g2, g3, g4⟩ := key
    refine ⟨v', w', trivial, ?_, hw.append hp g2 g3 g4⟩
    simp [execOp, resolve, invoke, builtin, hs.ev hx, hs.ev hy, g1]) (fun v' _ => kk v')

/-- a block is a row of the call's own -/
theorem G_own {e : TypeId} {b n sz : Nat} {cs : Array Value} {mk : List As} (hp : Take (.box b (.cells cs e)) m mk) (hcs : cs.size = n * sz) (hn : n ≤ maxLen)
    (k : G ro P N D w0 O ops l s (.own (.slice (some ⟨b, 0, none⟩) n n) e sz n cs.toList :: mk) Q) : G ro P N D w0 O ops l s m Q := fun a w hs hd hw => by
  have hb : w.heap[b]? = some (.cells cs e) := hw.ok (.box b (.cells cs e)) (hp.perm.mem_iff.2 (by simp))
  refine k a w hs hd ?_
  have h2 : St w [b] [.own (.slice (some ⟨b, 0, none⟩) n n) e sz n cs.toList] w := ⟨rfl, rfl, rfl, Nat.le_refl _, fun _ _ _ => rfl, fun x hx => by
    simp only [List.mem_singleton] at hx
    subst hx
    exact ⟨by simpa using hcs, .inr ⟨b, n, cs, rfl, Nat.zero_le _, hb, Nat.le_refl _, hn, hcs, by rw [← hcs, ← Array.length_toList, List.take_length]⟩⟩, by simp [As.foot, Value.ownBlock], fun c hc => by
    simp [As.foot, Value.ownBlock] at hc
    exact .inr (by simp [hc])⟩
  exact hw.step (mk := mk) (mg := [.box b (.cells cs e)]) h2 hp.perm (by simp [As.foot])

/-- a row of the call's own that is not empty, as the block it is -/
theorem G_unown {e : TypeId} {v : Value} {n sz : Nat} {xs : List Value} {mk : List As} (hp : Take (.own v e sz n xs) m mk) (hn : 0 < n)
    (k : ∀ g cap cur, v = .slice (some ⟨g, 0, none⟩) n cap → n ≤ cap → cap ≤ maxLen → cur.size = cap * sz → cur.toList.take (n * sz) = xs → G ro P N D w0 O ops l s (.box g (.cells cur e) :: mk) Q) : G ro P N D w0 O ops l s m Q := fun a w hs hd hw => by
  have ho : w.ownsRow 0 e sz v n xs := hw.ok (.own v e sz n xs) (hp.perm.mem_iff.2 (by simp))
  rcases ho.2 with ⟨_, h0⟩ | ⟨g, cap, cur, rfl, hb, hg, h1, h2, h3, h4⟩
  · omega
  · refine k g cap cur rfl h1 h2 h3 h4 a w hs hd ?_
    have h2 : St w [g] [.box g (.cells cur e)] w := ⟨rfl, rfl, rfl, Nat.le_refl _, fun _ _ _ => rfl, fun x hx => by
      simp only [List.mem_singleton] at hx
      subst hx
      exact hg, by simp [As.foot], fun c hc => by
      simp [As.foot] at hc
      exact .inr (by simp [hc])⟩
    exact hw.step (mk := mk) (mg := [.own (.slice (some ⟨g, 0, none⟩) n cap) e sz n xs]) h2 hp.perm (by simp [As.foot, Value.ownBlock])

/-- .. and back -/
theorem G_reown {e : TypeId} {g n cap sz : Nat} {cur : Array Value} {mk : List As} (hp : Take (.box g (.cells cur e)) m mk) (h1 : n ≤ cap) (h2 : cap ≤ maxLen) (h3 : cur.size = cap * sz)
    (k : G ro P N D w0 O ops l s (.own (.slice (some ⟨g, 0, none⟩) n cap) e sz n (cur.toList.take (n * sz)) :: mk) Q) : G ro P N D w0 O ops l s m Q := fun a w hs hd hw => by
  have hb : w.heap[g]? = some (.cells cur e) := hw.ok (.box g (.cells cur e)) (hp.perm.mem_iff.2 (by simp))
  refine k a w hs hd ?_
  have hle : n * sz ≤ cur.size := by rw [h3]; exact Nat.mul_le_mul_right _ h1
  have h2 : St w [g] [.own (.slice (some ⟨g, 0, none⟩) n cap) e sz n (cur.toList.take (n * sz))] w := ⟨rfl, rfl, rfl, Nat.le_refl _, fun _ _ _ => rfl, fun x hx => by
    simp only [List.mem_singleton] at hx
    subst hx
    exact ⟨by simp; omega, .inr ⟨g, cap, cur, rfl, Nat.zero_le _, hb, h1, h2, h3, rfl⟩⟩, by simp [As.foot, Value.ownBlock], fun c hc => by
    simp [As.foot, Value.ownBlock] at hc
    exact .inr (by simp [hc])⟩
  exact hw.step (mk := mk) (mg := [.box g (.cells cur e)]) h2 hp.perm (by simp [As.foot])

/-- the place of an element of a slice whose block is known -/
theorem G_indexS {t e : TypeId} {z : Value} {x y : Operand} {b off n c j : Nat} [ht : Und P t (.slice e)] [hS : Sc P e z] (hx : ev s x = some (.slice (some ⟨b, off, none⟩) n c)) (hy : ev s y = some (I j)) (hj : j < n) (hN : Nat.blt d N = true)
    (k : G ro P N D w0 O ops l ((d, .pointer (some ⟨b, off + j, none⟩)) :: s) m Q) : G ro P N D w0 O ops (⟨some d, .indexAddr t x y, ty, pos, af, none⟩ :: l) s m Q :=
  G_val _ rfl rfl (by simp) hN (fun a w hs hm => by
    have hjn : (j : Int) < (n : Int) := by omega
    have hj0 : (0 : Int) ≤ (j : Int) := by omega
    simp only [execOp, Instr.indexAt, hs.ev hx, hs.ev hy, asIntOf, run_underlying ht.eq, run_sizeOf hS, Sem.run_bind, Sem.run_pure, Result.andThen, hjn, hj0, and_self, if_true, Nat.mul_one, Int.toNat_natCast, addr_add]) k
end
end Go.Proofs.Ytjdbdjmfimbbkaa
