/- slices.Sort and slices.Compact of strings: the shelf's contracts, on rows of the call's own. -/
import Derived.Test.YtnncjfphdcfimaaFacts
import Derived.Test.YtnncjfphdcfimaaShf
import Derived.Shelf.Sort.Plain
import Derived.Shelf.Slices.In.SortNone
import Derived.Shelf.Slices.CompactS
import Derived.Sort.OwnSorted
set_option linter.unusedVariables false
set_option linter.unusedSimpArgs false
set_option maxRecDepth 100000
set_option maxHeartbeats 4000000
namespace Go.Proofs.Ytnncjfphdcfimaa
open Go.RowKit
attribute [local irreducible] G GC At wpL DR XPost CPost Cut GA GAR GAX GAt NxA GH GHR NxH
open Go.Sort Go.Shelf

def bU (s : ByteArray) : List UInt8 := s.data.toList
def oU (l : List UInt8) : ByteArray := ⟨l.toArray⟩
theorem oU_bU (s : ByteArray) : oU (bU s) = s := by simp [oU, bU]
theorem bU_oU (l : List UInt8) : bU (oU l) = l := by simp [oU, bU]
theorem bL_bU (s : ByteArray) : bL s = (bU s).map UInt8.toBitVec := rfl
theorem encs_str (l : List ByteArray) : encs l = (l.map bU).map encStr := by
  induction l with
  | nil => rfl
  | cons a l ih =>
    have h : encs (a :: l) = .string a :: encs l := rfl
    rw [h, ih, List.map_cons, List.map_cons]
    congr 1
/-- sorted -/
def srtL (l : List ByteArray) : List ByteArray := ((l.map bU).mergeSort fun x y => decide (x ≤ y)).map oU
/-- each of the like neighbours once -/
def cmpL (l : List ByteArray) : List ByteArray := (Lib.compact (l.map bU)).map oU
theorem map_bU_oU (l : List (List UInt8)) : (l.map oU).map bU = l := by
  rw [List.map_map, show bU ∘ oU = id from funext bU_oU, List.map_id]
theorem srtL_length (l : List ByteArray) : (srtL l).length = l.length := by simp [srtL]
theorem compact_len (l : List (List UInt8)) : (Lib.compact l).length ≤ l.length := by
  simp only [Lib.compact, Lib.compactUpTo, List.length_map]
  exact Nat.le_trans (List.length_filter_le _ _) (by simp)
theorem cmpL_length (l : List ByteArray) : (cmpL l).length ≤ l.length := by
  rw [cmpL, List.length_map]
  exact Nat.le_trans (compact_len _) (by simp)

theorem St.putOwn {w0 : World} {O : List Nat} {mk : List As} {v v' : Value} {e : TypeId} {sz n n' : Nat} {xs ys : List Value} {w w' : World} (h : St w0 O (.own v e sz n xs :: mk) w)
    (ho : w'.ownsRow 0 e sz v' n' ys) (hg : w.grownBy w' v.ownBlock) (hb : v'.ownBlock = v.ownBlock) : St w0 O (.own v' e sz n' ys :: mk) w' := h.append Take.here ho hg (.inl hb)

theorem lib_Sort (w0 : World) (O : List Nat) (mk : List As) (v : Value) (l : List ByteArray) (hl : l.length ≤ 1000000000) (w : World) (hw : St w0 O (row v 9 l :: mk) w) :
    Calls Try.prog 35 #[v] w (fun y w' => y = .returned (.tuple #[]) ∧ St w0 O (row v 9 (srtL l) :: mk) w') := by
  have hown : w.ownsRow 0 9 1 v l.length (encs l) := row_ok (hw.ok _ (List.Mem.head _))
  have hrow : ∀ l' : List ByteArray, l'.length = l.length → row v 9 l' = .own v 9 1 l.length (encs l') := fun l' h => by rw [← h]; rfl
  by_cases h0 : l.length = 0
  · obtain rfl := List.eq_nil_of_length_eq_zero h0
    obtain ⟨A, c, rfl, _⟩ := own_le hown
    refine (Any.slices_Sort_string_none shf190 A c w).mono ?_
    rintro y w' ⟨rfl, rfl⟩
    rw [show srtL [] = [] by simp [srtL]]
    exact ⟨rfl, hw⟩
  · rcases hown.2 with ⟨rfl, hn⟩ | ⟨g, cap, cur, rfl, hbg, hg, hnc, hcm, hcs, htake⟩
    · exact absurd hn h0
    · have hgs : g < w.heap.size := (Array.getElem?_eq_some_iff.1 hg).1
      rw [encs_str, Nat.mul_one] at htake
      have hH : Holds encStr w g 0 (l.map bU).toArray := holds_of_block hg (by rw [List.length_map]; exact htake)
      have hc := Any.slices_Sort_string shf190 g 0 cap (l.map bU) w hH hgs (by rw [List.length_map]; omega)
      rw [List.length_map] at hc
      refine hc.mono ?_
      rintro y w' ⟨rfl, n, os, rfl⟩
      refine ⟨rfl, ?_⟩
      rw [hrow _ (srtL_length l)]
      refine St.putOwn hw ?_ (grownBy_sorted _) rfl
      have h1 := ownsRow_sorted (ss := l.map bU) (ts := (l.map bU).mergeSort fun x y => decide (x ≤ y)) (os := os) (n := n) (by simp) hbg hg (by rw [List.length_map]; exact hnc) hcm hcs
      rw [List.length_map] at h1
      rw [encs_str, srtL, map_bU_oU]
      exact h1

theorem lib_Compact (w0 : World) (O : List Nat) (mk : List As) (v : Value) (l : List ByteArray) (hl : l.length ≤ 1000000000) (w : World) (hw : St w0 O (row v 9 l :: mk) w) :
    Calls Try.prog 36 #[v] w (fun y w' => ∃ r : Value, y = .returned r ∧ St w0 O (row r 9 (cmpL l) :: mk) w') := by
  have hown : w.ownsRow 0 9 1 v l.length (encs l) := row_ok (hw.ok _ (List.Mem.head _))
  by_cases h0 : l.length = 0
  · obtain rfl := List.eq_nil_of_length_eq_zero h0
    obtain ⟨A, c, rfl, _⟩ := own_le hown
    refine (Any.slices_Compact_string_empty shf194 A c w).mono ?_
    rintro y w' ⟨rfl, rfl⟩
    exact ⟨_, rfl, hw⟩
  · rcases hown.2 with ⟨rfl, hn⟩ | ⟨g, cap, cur, rfl, hbg, hg, hnc, hcm, hcs, htake⟩
    · exact absurd hn h0
    · rw [encs_str, Nat.mul_one] at htake
      have hH : Holds encStr w g 0 (l.map bU).toArray := holds_of_block hg (by rw [List.length_map]; exact htake)
      have hc := Any.slices_Compact_string shf194 g 0 cap (l.map bU) w hH (by rw [List.length_map]; omega) (by rw [List.length_map]; exact hnc)
      rw [List.length_map] at hc
      refine hc.mono ?_
      rintro y w' ⟨rfl, q, rfl⟩
      refine ⟨_, rfl, ?_⟩
      have hk : (Lib.compact (l.map bU)).length ≤ l.length := by have := compact_len (l.map bU); rwa [List.length_map] at this
      have hk2 : (cmpL l).length = (Lib.compact (l.map bU)).length := by rw [cmpL, List.length_map]
      have hrow : row (.slice (some ⟨g, 0, none⟩) (Lib.compact (l.map bU)).length cap) 9 (cmpL l) = .own (.slice (some ⟨g, 0, none⟩) (Lib.compact (l.map bU)).length cap) 9 1 (Lib.compact (l.map bU)).length (encs (cmpL l)) := by rw [← hk2]; rfl
      rw [hrow, ← grow_empty (putRow encStr _ _ _ _)]
      refine St.putOwn hw ?_ (grownBy_sorted _) rfl
      have hts : (Lib.compact (l.map bU) ++ List.replicate (l.length - (Lib.compact (l.map bU)).length) ([] : List UInt8)).length = (l.map bU).length := by
        rw [List.length_append, List.length_replicate, List.length_map]; omega
      have h1 := ownsRow_sorted (ss := l.map bU) (ts := Lib.compact (l.map bU) ++ List.replicate (l.length - (Lib.compact (l.map bU)).length) ([] : List UInt8)) (os := #[]) (n := q) hts hbg hg (by rw [List.length_map]; exact hnc) hcm hcs
      rw [List.length_map] at h1
      obtain ⟨j1, j2⟩ := h1
      rcases j2 with ⟨hx, _⟩ | ⟨g', cap', cur', hx, hbg', hg', hnc', hcm', hcs', htake'⟩
      · cases hx
      · cases hx
        refine ⟨by rw [encs_str, cmpL, map_bU_oU, List.length_map, Nat.mul_one], .inr ⟨g, cap, cur', rfl, hbg', hg', by omega, hcm', hcs', ?_⟩⟩
        rw [Nat.mul_one] at htake' ⊢
        rw [encs_str, cmpL, map_bU_oU]
        have h3 := congrArg (List.take (Lib.compact (l.map bU)).length) htake'
        rw [List.take_take, Nat.min_eq_left hk, List.map_append, List.take_left' (by rw [List.length_map])] at h3
        exact h3

section
variable {w0 : World} {O : List Nat} {m mk : List As} {v : Value} {l : List ByteArray}
instance [h : OwnR v m 9 l mk] : CallR Try.prog w0 O m 35 [v] (l.length ≤ 1000000000) (fun _ : Unit => True) (fun _ => .tuple #[]) (fun _ => row v 9 (srtL l) :: mk) :=
  ⟨fun hs w hw => (lib_Sort w0 O mk v l hs w (h.ent.st hw)).mono (by rintro y w' ⟨h1, h2⟩; exact ⟨(), trivial, h1, h2⟩)⟩
instance [h : OwnR v m 9 l mk] : CallR Try.prog w0 O m 36 [v] (l.length ≤ 1000000000) (fun _ : Value => True) (fun r => r) (fun r => row r 9 (cmpL l) :: mk) :=
  ⟨fun hs w hw => (lib_Compact w0 O mk v l hs w (h.ent.st hw)).mono (by rintro y w' ⟨r, h1, h2⟩; exact ⟨r, trivial, h1, h2⟩)⟩
end

/-! ### Plain: what is sorted, what is compacted -/
theorem lt_bLt : ∀ (a b : List UInt8), a < b ↔ ltS (a.map UInt8.toBitVec) (b.map UInt8.toBitVec)
  | [], [] => by simp [ltS, bLt]
  | [], _ :: _ => by simp [ltS, bLt]
  | _ :: _, [] => by simp [ltS, bLt]
  | a :: x, b :: y => by
    rw [List.map_cons, List.map_cons, ltS_cons, List.cons_lt_cons_iff, lt_bLt x y]
    have h : a = b ↔ a.toBitVec = b.toBitVec := ⟨fun h => by rw [h], UInt8.eq_of_toBitVec_eq⟩
    rw [h]
    rfl
theorem le_bLt (a b : List UInt8) : a ≤ b ↔ ¬ ltS (b.map UInt8.toBitVec) (a.map UInt8.toBitVec) := by
  rw [← lt_bLt]
  exact List.not_lt.symm
theorem srtL_perm (l : List ByteArray) : (srtL l).Perm l := by
  have h := (List.mergeSort_perm (l.map bU) fun x y => decide (x ≤ y)).map oU
  rw [List.map_map, show oU ∘ bU = id from funext oU_bU, List.map_id] at h
  exact h
theorem srtL_sorted (l : List ByteArray) : (srtL l).Pairwise fun a b => ¬ ltS (bL b) (bL a) := by
  have h := List.pairwise_mergeSort (le := fun x y : List UInt8 => decide (x ≤ y)) (fun a b c h1 h2 => by
    simp only [decide_eq_true_eq, le_bLt] at h1 h2 ⊢
    rw [not_ltS] at h1 h2 ⊢
    rcases h1 with h1 | h1
    · rcases h2 with h2 | h2
      · exact .inl (ltS_trans h1 h2)
      · exact .inl (h2 ▸ h1)
    · rw [h1] at h2; exact h2) (fun a b => by
    simp only [Bool.or_eq_true, decide_eq_true_eq, le_bLt]
    rcases Classical.em (ltS (b.map UInt8.toBitVec) (a.map UInt8.toBitVec)) with h | h
    · exact .inr (ltS_asym h)
    · exact .inl h) (l.map bU)
  rw [srtL, List.pairwise_map]
  refine h.imp fun {a b} hab => ?_
  rw [decide_eq_true_eq, le_bLt] at hab
  rw [bL_bU, bL_bU, bU_oU, bU_oU]
  exact hab
/-- a list of strings in order, each once -/
def Dic (d : List ByteArray) : Prop := d.Pairwise fun a b => ltS (bL a) (bL b)
end Go.Proofs.Ytnncjfphdcfimaa
