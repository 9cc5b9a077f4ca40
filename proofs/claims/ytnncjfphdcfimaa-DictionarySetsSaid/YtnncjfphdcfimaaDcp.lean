/- Dictionary: plain laws of sorted lists of strings. -/
import Derived.Test.YtnncjfphdcfimaaDca
set_option linter.unusedVariables false
set_option linter.unusedSimpArgs false
set_option maxRecDepth 100000
set_option maxHeartbeats 4000000
namespace Go.Proofs.Ytnncjfphdcfimaa
open Go.RowKit
attribute [local irreducible] G GC At wpL DR XPost CPost Cut GA GAR GAX GAt NxA GH GHR NxH
open Go.Sort

theorem dic_ok {d : List ByteArray} (h : Dic d) (h' : ∀ s ∈ d, (bL s).length ≤ 255) : OkU d d.length := fun i hi _ =>
  ⟨h' _ (List.getElem_mem hi), fun h0 => List.pairwise_iff_getElem.1 h (i - 1) i (by omega) hi (by omega)⟩
theorem ok_dic {d : List ByteArray} (h : OkU d d.length) : Dic d := by
  have key : ∀ n i (hi : i < d.length) (hj : i + (n + 1) < d.length), ltS (bL d[i]) (bL (d[i + (n + 1)]'hj)) := by
    intro n
    induction n with
    | zero => intro i hi hj; exact (h (i + 1) hj hj).2 (by omega)
    | succ n ih =>
      intro i hi hj
      exact ltS_trans (ih i hi (by omega)) ((h (i + (n + 1 + 1)) hj hj).2 (by omega))
  refine List.pairwise_iff_getElem.2 fun i j hi hj hij => ?_
  obtain ⟨n, rfl⟩ : ∃ n, j = i + (n + 1) := ⟨j - i - 1, by omega⟩
  exact key n i hi hj
theorem va_dic {d : List ByteArray} (h : VaD d) : Dic d := ok_dic h.1
theorem va_len {d : List ByteArray} (h : VaD d) : ∀ s ∈ d, (bL s).length ≤ 255 := fun s hs => by
  obtain ⟨i, hi, rfl⟩ := List.mem_iff_getElem.1 hs
  exact (h.1 i hi hi).1
theorem va_iff {d : List ByteArray} : VaD d ↔ Dic d ∧ (∀ s ∈ d, (bL s).length ≤ 255) ∧ d.length ≤ 4096 :=
  ⟨fun h => ⟨va_dic h, va_len h, h.2⟩, fun h => ⟨dic_ok h.1 h.2.1, h.2.2⟩⟩

/-- two lists in order with the same elements -/
theorem dic_ext : ∀ {a b : List ByteArray}, Dic a → Dic b → (∀ s, s ∈ a ↔ s ∈ b) → a = b
  | [], [], _, _, _ => rfl
  | [], y :: b, _, _, h => absurd ((h y).2 (List.mem_cons_self ..)) (by simp)
  | x :: a, [], _, _, h => absurd ((h x).1 (List.mem_cons_self ..)) (by simp)
  | x :: a, y :: b, ha, hb, h => by
    have ha' := List.pairwise_cons.1 ha
    have hb' := List.pairwise_cons.1 hb
    have e : x = y := by
      rcases List.mem_cons.1 ((h x).1 (List.mem_cons_self ..)) with e | h1
      · exact e
      · rcases List.mem_cons.1 ((h y).2 (List.mem_cons_self ..)) with e | h2
        · exact e.symm
        · exact absurd (ha'.1 _ h2) (ltS_asym (hb'.1 _ h1))
    subst e
    rw [dic_ext ha'.2 hb'.2 fun s => ?_]
    constructor
    · intro hs
      rcases List.mem_cons.1 ((h s).1 (List.mem_cons_of_mem _ hs)) with e | h1
      · subst e; exact absurd (ha'.1 _ hs) (ltS_irr _)
      · exact h1
    · intro hs
      rcases List.mem_cons.1 ((h s).2 (List.mem_cons_of_mem _ hs)) with e | h1
      · subst e; exact absurd (hb'.1 _ hs) (ltS_irr _)
      · exact h1

/-- the dictionary of a list -/
def ofD (l : List ByteArray) : List ByteArray := cmpL (srtL l)
theorem cmp_up {l : List ByteArray} (hs : l.Pairwise fun a b => ¬ ltS (bL b) (bL a)) : ∀ m, m ≤ l.length →
    (∀ x, x ∈ (Lib.compactUpTo (l.map bU).toArray m).map oU ↔ ∃ j, ∃ h : j < l.length, j < m ∧ l[j] = x) ∧ ((Lib.compactUpTo (l.map bU).toArray m).map oU).Pairwise fun a b => ltS (bL a) (bL b)
  | 0, _ => by simp [Lib.compactUpTo]
  | m + 1, hm => by
    obtain ⟨h1, h2⟩ := cmp_up hs m (by omega)
    have hg : ∀ j (h : j < l.length), oU ((l.map bU).toArray[j]!) = l[j] := fun j h => by
      rw [getElem!_pos _ j (by simpa using h)]
      simp [oU_bU]
    have hi : ∀ j j' (h : j < l.length) (h' : j' < l.length), (l.map bU).toArray[j]! = (l.map bU).toArray[j']! ↔ l[j] = l[j'] := fun j j' h h' => by
      rw [← hg j h, ← hg j' h']
      exact ⟨fun e => by rw [e], fun e => by rw [← bU_oU ((l.map bU).toArray[j]!), e, bU_oU]⟩
    rw [Lib.compactUpTo_succ, List.map_append]
    have hmem : ∀ x, (∃ j, ∃ h : j < l.length, j < m + 1 ∧ l[j] = x) ↔ (∃ j, ∃ h : j < l.length, j < m ∧ l[j] = x) ∨ l[m] = x := fun x => by
      constructor
      · rintro ⟨j, h, hj, e⟩
        by_cases e' : j = m
        · subst e'; exact .inr e
        · exact .inl ⟨j, h, by omega, e⟩
      · rintro (⟨j, h, hj, e⟩ | e)
        · exact ⟨j, h, by omega, e⟩
        · exact ⟨m, by omega, by omega, e⟩
    by_cases hk : m = 0 ∨ ¬ l[m]'(by omega) = l[m - 1]'(by omega)
    · have hkeep : Lib.keeps (l.map bU).toArray m = true := by
        simp only [Lib.keeps, decide_eq_true_eq]
        rcases hk with h | h
        · exact .inl h
        · exact .inr fun e => h ((hi m (m - 1) (by omega) (by omega)).1 e)
      rw [if_pos hkeep, List.map_cons, List.map_nil, hg m (by omega)]
      refine ⟨fun x => ?_, ?_⟩
      · rw [List.mem_append, h1 x, List.mem_singleton, hmem x]
        exact ⟨fun h => h.imp id Eq.symm, fun h => h.imp id Eq.symm⟩
      · refine List.pairwise_append.2 ⟨h2, List.pairwise_singleton _ _, fun a ha b hb => ?_⟩
        rw [List.mem_singleton] at hb
        subst hb
        obtain ⟨j, hj, hjm, rfl⟩ := (h1 a).1 ha
        have hm0 : ¬ m = 0 := by omega
        have hne := hk.resolve_left hm0
        have hle : ltS (bL (l[m - 1]'(by omega))) (bL (l[m]'(by omega))) := by
          rcases not_ltS.1 (List.pairwise_iff_getElem.1 hs (m - 1) m (by omega) (by omega) (by omega)) with h | h
          · exact h
          · exact absurd (bL_inj h) hne
        by_cases e : j = m - 1
        · subst e; exact hle
        · rcases not_ltS.1 (List.pairwise_iff_getElem.1 hs j (m - 1) hj (by omega) (by omega)) with h | h
          · exact ltS_trans h hle
          · rw [← h]; exact hle
    · obtain ⟨hm0, he⟩ : 0 < m ∧ l[m]'(by omega) = l[m - 1]'(by omega) := ⟨by omega, Decidable.not_not.1 fun h => hk (.inr h)⟩
      have hkeep : Lib.keeps (l.map bU).toArray m = false := Lib.keeps_neg hm0 ((hi m (m - 1) (by omega) (by omega)).2 he)
      rw [if_neg (by rw [hkeep]; decide), List.map_nil, List.append_nil]
      refine ⟨fun x => ?_, h2⟩
      rw [h1 x, hmem x]
      exact ⟨.inl, fun h => h.elim id fun e => ⟨m - 1, by omega, by omega, by rw [← he]; exact e⟩⟩
theorem ofD_dic (l : List ByteArray) : Dic (ofD l) := by
  have h := (cmp_up (srtL_sorted l) (srtL l).length (Nat.le_refl _)).2
  rw [ofD, cmpL, Lib.compact, List.length_map]
  exact h
theorem ofD_mem {l : List ByteArray} {s : ByteArray} : s ∈ ofD l ↔ s ∈ l := by
  have h := (cmp_up (srtL_sorted l) (srtL l).length (Nat.le_refl _)).1 s
  rw [ofD, cmpL, Lib.compact, List.length_map, h, ← (srtL_perm l).mem_iff, List.mem_iff_getElem]
  exact ⟨fun ⟨j, hj, _, e⟩ => ⟨j, hj, e⟩, fun ⟨j, hj, e⟩ => ⟨j, hj, hj, e⟩⟩
theorem ofD_eq {l d : List ByteArray} (h : Dic d) (h' : ∀ s, s ∈ d ↔ s ∈ l) : d = ofD l := dic_ext h (ofD_dic l) fun s => by rw [h', ofD_mem]
theorem ofD_congr {l l' : List ByteArray} (h : ∀ s, s ∈ l ↔ s ∈ l') : ofD l = ofD l' := ofD_eq (ofD_dic l) fun s => by rw [ofD_mem, h]
theorem ofD_length (l : List ByteArray) : (ofD l).length ≤ l.length := Nat.le_trans (cmpL_length _) (by rw [srtL_length]; exact Nat.le_refl _)
theorem ofD_id {d : List ByteArray} (h : Dic d) : ofD d = d := (ofD_eq h fun _ => Iff.rfl).symm
theorem dic_nodup {d : List ByteArray} (h : Dic d) : ∀ i j (hi : i < d.length) (hj : j < d.length), i < j → ¬ d[i] = d[j] := fun i j hi hj hij e => by
  have := List.pairwise_iff_getElem.1 h i j hi hj hij
  rw [e] at this
  exact ltS_irr _ this
theorem ix_dic {d : List ByteArray} (h : Dic d) {i : Nat} (hi : i < d.length) : ixD d d[i] = i := ixD_at hi rfl fun j hj hji e => dic_nodup h j i hj hi hji e

/-- an insertion into a list in order, ahead of the first that is not less -/
theorem dic_ins {o : List ByteArray} {s : ByteArray} {a : Nat} (h : Dic o) (ha : a ≤ o.length) (h1 : ∀ i (hi : i < o.length), i < a → ltS (bL o[i]) (bL s)) (h2 : ∀ h : a < o.length, ltS (bL s) (bL o[a])) :
    Dic (o.take a ++ s :: o.drop a) := by
  have hp := List.pairwise_iff_getElem.1 h
  refine List.pairwise_append.2 ⟨h.sublist (List.take_sublist _ _), List.pairwise_cons.2 ⟨fun x hx => ?_, h.sublist (List.drop_sublist _ _)⟩, fun x hx y hy => ?_⟩
  · obtain ⟨j, hj, rfl⟩ := List.mem_iff_getElem.1 hx
    rw [List.length_drop] at hj
    rw [List.getElem_drop]
    by_cases e : j = 0
    · subst e; exact h2 (by omega)
    · exact ltS_trans (h2 (by omega)) (hp a (a + j) (by omega) (by omega) (by omega))
  · obtain ⟨i, hi, rfl⟩ := List.mem_iff_getElem.1 hx
    rw [List.length_take] at hi
    rw [List.getElem_take]
    have hxs := h1 i (by omega) (by omega)
    rcases List.mem_cons.1 hy with rfl | hy
    · exact hxs
    · obtain ⟨j, hj, rfl⟩ := List.mem_iff_getElem.1 hy
      rw [List.length_drop] at hj
      rw [List.getElem_drop]
      exact hp i (a + j) (by omega) (by omega) (by omega)
end Go.Proofs.Ytnncjfphdcfimaa
