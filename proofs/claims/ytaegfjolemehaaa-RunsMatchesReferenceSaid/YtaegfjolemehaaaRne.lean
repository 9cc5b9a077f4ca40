/- Runs: sizes, kinds and forms, in the reference; the closures of the program's forms. -/
import Derived.Test.YtaegfjolemehaaaRnd
set_option linter.unusedVariables false
set_option linter.unusedSimpArgs false
set_option maxRecDepth 100000
set_option maxHeartbeats 4000000
namespace Go.Proofs.Ytaegfjolemehaaa
open Go.RowKit
attribute [local irreducible] G GC At wpL DR XPost CPost Cut GA GAR GAX GAt NxA GH GHR NxH

theorem rrev_mem (l : List Int) : ∀ p ∈ rrev l, p.1 ∈ l := by
  have key : ∀ (l : List Int) (a : List (Int × Nat)) (S : Int → Prop), (∀ p ∈ a, S p.1) → (∀ x ∈ l, S x) → ∀ p ∈ l.foldl rstep a, S p.1 := by
    intro l
    induction l with
    | nil => exact fun a S h _ => h
    | cons x r ih =>
      intro a S h hl
      rw [List.foldl_cons]
      refine ih _ S (fun q hq => ?_) (fun y hy => hl y (by simp [hy]))
      unfold rstep at hq
      split at hq
      · simp only [List.mem_singleton] at hq; subst hq; exact hl x (by simp)
      · rename_i v n t
        split at hq
        · rcases List.mem_cons.1 hq with rfl | hq
          · exact h (v, n) (by simp)
          · exact h q (by simp [hq])
        · rcases List.mem_cons.1 hq with rfl | hq
          · exact hl x (by simp)
          · exact h q hq
  exact key l [] (· ∈ l) (fun p hp => by simp at hp) (fun x hx => hx)
theorem okI_rvs {l : List Int} (h : okI l) : okI (rvs l) := fun x hx => by
  simp only [rvs, rns, List.mem_map, List.mem_reverse] at hx
  obtain ⟨p, hp, rfl⟩ := hx
  exact h _ (rrev_mem l p hp)
theorem okI_rls {l : List Int} (h : l.length ≤ 100000) : okI (rls l) := fun x hx => by
  have := rls_in hx; omega
theorem okI_dif {l : List Int} (h : okI l) : okI (difL l) := fun x hx => by
  simp only [difL, List.mem_map, List.mem_range] at hx
  obtain ⟨i, hi, rfl⟩ := hx
  by_cases h0 : i = 0
  · subst h0
    rw [difA_zero hi]
    exact h _ (List.getElem_mem hi)
  · rw [difA_at h0 hi]
    exact wrap_range _
theorem rvs_len (l : List Int) : (rvs l).length ≤ l.length := by rw [rvs_length]; exact rns_pos_len l
theorem rls_len (l : List Int) : (rls l).length ≤ l.length := by rw [rls_length]; exact rns_pos_len l

/-- the lists of a form -/
def lstA (k : Nat) (l : List Int) : List (List Int) := if k = 0 then [l] else [rvs l, rls l]
def lst (k : Nat) (l : List Int) : List (List Int) := if 2 ≤ k then lstA (k - 2) (difL l) else lstA k l
/-- the bytes of a form, the number of them -/
def fB (k : Nat) (l : List Int) : List (BitVec 8) := (lst k l).flatMap packB
def fS (k : Nat) (l : List Int) : Nat := (fB k l).length
def kdGo (l : List Int) (b : Nat) : Nat → Nat
  | 0 => b
  | n + 1 => kdGo l (if fS (4 - (n + 1)) l < fS b l then 4 - (n + 1) else b) n
/-- the kind of a list -/
def kd (l : List Int) : Nat := kdGo l 0 3
def encB (l : List Int) : List (BitVec 8) := BitVec.ofNat 8 (kd l) :: fB (kd l) l
theorem kdGo_lt (l : List Int) : ∀ (n b : Nat), n ≤ 3 → b < 4 → kdGo l b n < 4
  | 0, b, _, h => h
  | n + 1, b, hn, h => by
    rw [kdGo]
    exact kdGo_lt l n _ (by omega) (by split <;> omega)
theorem kd_lt (l : List Int) : kd l < 4 := kdGo_lt l 3 0 (by omega) (by omega)
theorem lst_ok {k : Nat} {l : List Int} (h : okI l) (hl : l.length ≤ 4096) : ∀ x ∈ lst k l, okI x ∧ x.length ≤ 4096 := by
  have key : ∀ (k : Nat) (l : List Int), okI l → l.length ≤ 4096 → ∀ x ∈ lstA k l, okI x ∧ x.length ≤ 4096 := by
    intro k l h hl x hx
    unfold lstA at hx
    split at hx
    · simp only [List.mem_singleton] at hx; subst hx; exact ⟨h, hl⟩
    · simp only [List.mem_cons, List.not_mem_nil, or_false] at hx
      rcases hx with rfl | rfl
      · exact ⟨okI_rvs h, Nat.le_trans (rvs_len l) hl⟩
      · exact ⟨okI_rls (by omega), Nat.le_trans (rls_len l) hl⟩
  unfold lst
  split
  · exact key _ _ (okI_dif h) (by simpa using hl)
  · exact key _ _ h hl
theorem fB_le {k : Nat} {l : List Int} (h : okI l) (hl : l.length ≤ 4096) : fS k l ≤ 65578 := by
  have key : ∀ (L : List (List Int)), L.length ≤ 2 → (∀ x ∈ L, x.length ≤ 4096) → (L.flatMap packB).length ≤ 65578 := by
    intro L hL hx
    match L, hL with
    | [], _ => simp
    | [a], _ => have := (packB_le (hx a (by simp))).1; simp only [List.flatMap_cons, List.flatMap_nil, List.append_nil]; omega
    | [a, b], _ =>
      have := (packB_le (hx a (by simp))).1
      have := (packB_le (hx b (by simp))).1
      simp only [List.flatMap_cons, List.flatMap_nil, List.append_nil, List.length_append]; omega
  refine key _ ?_ (fun x hx => (lst_ok h hl x hx).2)
  unfold lst lstA
  split <;> split <;> simp

theorem ref_SizeA (w : World) (k : Nat) (v : Value) (l : List Int) [h : RdOld w [] v l] (hk : k < 2) (hi : okI l) (hl : l.length ≤ 4096) : Calls Try.prog 36 #[I k, v] w (Is w (I (fS k l))) := by
  have h1 := okI_rvs hi
  have h2 := okI_rls (l := l) (by omega)
  have h3 := rvs_len l
  have h4 := rls_len l
  have h5 := (packB_le (l := rvs l) (by omega)).1
  have h6 := (packB_le (l := rls l) (by omega)).1
  rcases (by omega : k = 0 ∨ k = 1) with rfl | rfl
  · refine enter (N := 26) (args := [I (0 : Nat), v]) Try.func36 rfl rfl rfl (St.refl w) ?_
    repeat' (first
  | refine G_nilC ?_
  | refine G_nilN ?_
  | refine G_nilH ?_
  | (refine G_nil ?_; try clear ri_; try clear ops_)
  | (refine V_op ?_; first | exact True.intro | intro v_ h_ w_ r_ t_ | intro (ops_ : Array Oper) ri_ | intro (b_ : Bool) hb_ | intro v_ h_ | intro (v_ : Value) | intro (b_ : Nat) | (refine ⟨fun hc => ?_, fun hc => ?_⟩ <;> try (exfalso; omega)) | refine ⟨?_, ?_⟩ | intro _ | skip)
  | (refine Is_DQ ?_; first | (apply DQ_k rfl rfl rfl; intro mm) | (apply DQ_x rfl rfl rfl; intro mm)))
    refine ret_ rfl (by repeat (first | exact ResAll.nil | (apply ResAll.cons; first | exact .tmp rfl | exact .cell rfl rfl | exact .one rfl))) fun w' h' => ?_
    refine .mk ?_ h'
    simp [fS, fB, lst, lstA, retV]
  · refine enter (N := 26) (args := [I (1 : Nat), v]) Try.func36 rfl rfl rfl (St.refl w) ?_
    repeat' (first
  | refine G_nilC ?_
  | refine G_nilN ?_
  | refine G_nilH ?_
  | (refine G_nil ?_; try clear ri_; try clear ops_)
  | (refine V_op ?_; first | exact True.intro | intro v_ h_ w_ r_ t_ | intro (ops_ : Array Oper) ri_ | intro (b_ : Bool) hb_ | intro v_ h_ | intro (v_ : Value) | intro (b_ : Nat) | (refine ⟨fun hc => ?_, fun hc => ?_⟩ <;> try (exfalso; omega)) | refine ⟨?_, ?_⟩ | intro _ | skip)
  | (refine Is_DQ ?_; first | (apply DQ_k rfl rfl rfl; intro mm) | (apply DQ_x rfl rfl rfl; intro mm)))
    refine ret_ rfl (by repeat (first | exact ResAll.nil | (apply ResAll.cons; first | exact .tmp rfl | exact .cell rfl rfl | exact .one rfl))) fun w' h' => ?_
    refine .mk ?_ h'
    simp [fS, fB, lst, lstA, retV]
theorem ref_Size4 (w : World) (k : Nat) (v : Value) (l : List Int) [h : RdOld w [] v l] (hk : k < 4) (hi : okI l) (hl : l.length ≤ 4096) : Calls Try.prog 36 #[I k, v] w (Is w (I (fS k l))) := by
  by_cases hk2 : k < 2
  · exact ref_SizeA w k v l hk2 hi hl
  · haveI : ∀ {w0 : World} {O : List Nat} {m : List As} {v : Value} {l : List Int} {z : Int} [h : RdR w0 O m v l], CallV Try.prog w0 O m 36 [I z, v] ((0 ≤ z ∧ z < 2) ∧ okI l ∧ l.length ≤ 4096) (I (fS z.toNat l)) := @fun w0 O m v l z h => ⟨fun hs w hw => by
      obtain ⟨j, rfl⟩ : ∃ j : Nat, z = j := ⟨z.toNat, by omega⟩
      exact @ref_SizeA w j v l (RdOld.of (h.rd w hw)) (by omega) hs.2.1 hs.2.2⟩
    have h1 := okI_dif hi
    have h2 : (difL l).length = l.length := by simp
    have e : ((k : Int) - 2).toNat = k - 2 := by omega
    refine enter (N := 26) (args := [I k, v]) Try.func36 rfl rfl rfl (St.refl w) ?_
    repeat' (first
  | refine G_nilC ?_
  | refine G_nilN ?_
  | refine G_nilH ?_
  | (refine G_nil ?_; try clear ri_; try clear ops_)
  | (refine V_op ?_; first | exact True.intro | intro v_ h_ w_ r_ t_ | intro (ops_ : Array Oper) ri_ | intro (b_ : Bool) hb_ | intro v_ h_ | intro (v_ : Value) | intro (b_ : Nat) | (refine ⟨fun hc => ?_, fun hc => ?_⟩ <;> try (exfalso; omega)) | refine ⟨?_, ?_⟩ | intro _ | skip)
  | (refine Is_DQ ?_; first | (apply DQ_k rfl rfl rfl; intro mm) | (apply DQ_x rfl rfl rfl; intro mm)))
    refine ret_ rfl (by repeat (first | exact ResAll.nil | (apply ResAll.cons; first | exact .tmp rfl | exact .cell rfl rfl | exact .one rfl))) fun w' h' => ?_
    refine .mk ?_ h'
    rw [e, fS, fS, fB, fB, lst, lst, if_neg (by omega), if_pos (by omega)]
instance {w0 : World} {O : List Nat} {m : List As} {v : Value} {l : List Int} [h : RdR w0 O m v l] {z : Int} {k : Nat} {sd : Prop} [hz : NatR z k sd] : CallV Try.prog w0 O m 36 [I z, v] ((sd ∧ k < 4) ∧ okI l ∧ l.length ≤ 4096) (I (fS k l)) := ⟨fun hs w hw => by
  rw [hz.eq hs.1.1]
  exact @ref_Size4 w k v l (RdOld.of (h.rd w hw)) hs.1.2 hs.2.1 hs.2.2⟩

theorem ref_Kind (w : World) (v : Value) (l : List Int) [h : RdOld w [] v l] (hi : okI l) (hl : l.length ≤ 4096) : Calls Try.prog 23 #[v] w (Is w (I (kd l))) := by
  refine enter (N := 18) (args := [v]) Try.func23 rfl rfl rfl (St.refl w) ?_
  repeat' (first
  | refine G_nilC ?_
  | refine G_nilN ?_
  | refine G_nilH ?_
  | (refine G_nil ?_; try clear ri_; try clear ops_)
  | (refine V_op ?_; first | exact True.intro | intro v_ h_ w_ r_ t_ | intro (ops_ : Array Oper) ri_ | intro (b_ : Bool) hb_ | intro v_ h_ | intro (v_ : Value) | intro (b_ : Nat) | (refine ⟨fun hc => ?_, fun hc => ?_⟩ <;> try (exfalso; omega)) | refine ⟨?_, ?_⟩ | intro _ | skip)
  | (refine Is_DQ ?_; first | (apply DQ_k rfl rfl rfl; intro mm) | (apply DQ_x rfl rfl rfl; intro mm)))
  refine GC_loopS (X := Nat × Nat) (fun y => (y.1 ≤ 4 ∧ 1 ≤ y.1 ∧ y.2 < 4) ∧ kdGo l y.2 (4 - y.1) = kd l) (fun y s => (3, I y.2) :: (4, I y.1) :: s) (fun _ q => q) (fun y => 4 - y.1) (1, 0) ⟨by simp, rfl⟩ (by repeat (first | exact trivial | refine And.intro rfl ?_)) ?_
  rintro ⟨k, b⟩ ⟨⟨hk, hk1, hb⟩, hg⟩
  simp only at hk hk1 hb hg ⊢
  by_cases hk4 : k < 4
  · rw [show 4 - k = (4 - (k + 1)) + 1 by omega, kdGo, show 4 - (4 - (k + 1) + 1) = k by omega] at hg
    repeat' (first
  | refine G_nilC ?_
  | refine G_nilN ?_
  | refine G_nilH ?_
  | (refine G_nil ?_; try clear ri_; try clear ops_)
  | (refine V_op ?_; first | exact True.intro | intro v_ h_ w_ r_ t_ | intro (ops_ : Array Oper) ri_ | intro (b_ : Bool) hb_ | intro v_ h_ | intro (v_ : Value) | intro (b_ : Nat) | (refine ⟨fun hc => ?_, fun hc => ?_⟩ <;> try (exfalso; omega)) | refine ⟨?_, ?_⟩ | intro _ | skip)
  | (refine Is_DQ ?_; first | (apply DQ_k rfl rfl rfl; intro mm) | (apply DQ_x rfl rfl rfl; intro mm)))
    · rw [if_pos (by omega)] at hg
      exact At_roundS (k + 1, k) ⟨⟨by simp only; omega, by simp only; omega, hk4⟩, hg⟩ (by simp only; omega) (by repeat (first | exact trivial | refine And.intro rfl ?_)) (by repeat (first | exact trivial | refine And.intro rfl ?_))
    · rw [if_neg (by omega)] at hg
      exact At_roundS (k + 1, b) ⟨⟨by simp only; omega, by simp only; omega, hb⟩, hg⟩ (by simp only; omega) (by repeat (first | exact trivial | refine And.intro rfl ?_)) (by repeat (first | exact trivial | refine And.intro rfl ?_))
  · obtain rfl : k = 4 := by omega
    simp only [Nat.sub_self, kdGo] at hg
    subst hg
    repeat' (first
  | refine G_nilC ?_
  | refine G_nilN ?_
  | refine G_nilH ?_
  | (refine G_nil ?_; try clear ri_; try clear ops_)
  | (refine V_op ?_; first | exact True.intro | intro v_ h_ w_ r_ t_ | intro (ops_ : Array Oper) ri_ | intro (b_ : Bool) hb_ | intro v_ h_ | intro (v_ : Value) | intro (b_ : Nat) | (refine ⟨fun hc => ?_, fun hc => ?_⟩ <;> try (exfalso; omega)) | refine ⟨?_, ?_⟩ | intro _ | skip)
  | (refine Is_DQ ?_; first | (apply DQ_k rfl rfl rfl; intro mm) | (apply DQ_x rfl rfl rfl; intro mm)))
    refine ret_ rfl (by repeat (first | exact ResAll.nil | (apply ResAll.cons; first | exact .tmp rfl | exact .cell rfl rfl | exact .one rfl))) fun w' h' => ?_
    exact .mk rfl h'
instance {w0 : World} {O : List Nat} {m : List As} {v : Value} {l : List Int} {k : Nat} [h : RdR w0 O m v l] [hk : Eqn (kd l) k] : CallV Try.prog w0 O m 23 [v] (okI l ∧ l.length ≤ 4096) (I k) := ⟨fun hs w hw => by rw [← hk.eq]; exact @ref_Kind w v l (RdOld.of (h.rd w hw)) hs.1 hs.2⟩
end Go.Proofs.Ytaegfjolemehaaa
