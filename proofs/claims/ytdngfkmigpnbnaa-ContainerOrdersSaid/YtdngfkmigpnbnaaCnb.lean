/- Container: the reader's steps. -/
import Derived.Test.YtdngfkmigpnbnaaCna
set_option linter.unusedVariables false
set_option linter.unusedSimpArgs false
set_option maxRecDepth 100000
set_option maxHeartbeats 4000000
namespace Go.Proofs.Ytdngfkmigpnbnaa
open Go.RowKit
attribute [local irreducible] G GC At wpL DR XPost CPost Cut GA GAR GAX GAt NxA GH GHR NxH

def rotE (e : Int) : Int := if e = 7 then 7 else 8
theorem run_known (w : World) (k : Int) : Calls Try.prog 32 #[I k] w (Is w (.bool (decide (1 ≤ k ∧ k ≤ 9)))) := by
  refine enter (N := 9) (args := [I k]) Try.func32 rfl rfl rfl (St.refl w) ?_
  repeat' (first
  | refine G_nilC ?_
  | refine G_nilN ?_
  | refine G_nilH ?_
  | (refine G_nil ?_; try clear ri_; try clear ops_)
  | (refine V_op ?_; first | exact True.intro | (intro v_ h_ w_ r_ t_; try (obtain ⟨ta_, tb_⟩ := (t_ : _ ∧ _)); try (obtain ⟨tb_, tc_⟩ := (tb_ : _ ∧ _)); try (obtain ⟨tc_, td_⟩ := (tc_ : _ ∧ _)); try (obtain ⟨td_, te_⟩ := (td_ : _ ∧ _))) | intro (ops_ : Array Oper) ri_ | intro (b_ : Bool) hb_ | (intro v_ h_; try (have o_ := FrzK.one h_)) | intro (v_ : Value) | intro (b_ : Nat) | (refine ⟨fun hc => ?_, fun hc => ?_⟩ <;> try (exfalso; omega)) | refine ⟨?_, ?_⟩ | intro _ | skip)
  | (refine Is_DQ ?_; first | (apply DQ_m rfl rfl rfl rfl; focus (intro wq_ Oq_ rq_ mm; (repeat (first | (refine G_nil ?_; exact X_done rfl (List.Sublist.refl _)) | refine V_op ?_)); done)) | (apply DQ_k rfl rfl rfl rfl; intro wq_ Oq_ rq_ mm) | (apply DQ_y rfl rfl rfl rfl; intro wq_ Oq_ rq_ mm)))
  all_goals
    refine ret_ rfl (by repeat (first | exact ResAll.nil | (apply ResAll.cons; first | exact .tmp rfl | exact .cell rfl rfl | exact .one rfl))) fun w' h' => ?_
    refine .mk ?_ h'
    first | (rw [decide_eq_true (p := 1 ≤ k ∧ k ≤ 9) (by omega)]; rfl) | (rw [decide_eq_false (p := 1 ≤ k ∧ k ≤ 9) (by omega)]; rfl) | (by_cases h9 : k ≤ 9 <;> simp_all [retV])
instance {w0 : World} {O : List Nat} {m : List As} (k : Int) : CallV Try.prog w0 O m 32 [I k] True (.bool (decide (1 ≤ k ∧ k ≤ 9))) := ⟨fun _ w _ => run_known w k⟩
/-- what a reader gives up with -/
def trbl (e : Int) : Value := .iface 84 (.agg #[I e])
theorem run_fail (w0 : World) (O : List Nat) (m : List As) (p : Value) (e : Int) (w : World) (hw : St w0 O m w) : Calls Try.prog 68 #[p, I e] w (fun x w' => x = .panicked (chn (trbl (rotE e))) ∧ St w0 O m w') := by
  by_cases he : e = 7
  · subst he
    refine enterF (N := 9) (args := [p, I 7]) Try.func68 rfl rfl rfl hw ?_
    repeat' (first
  | refine G_nilC ?_
  | refine G_nilN ?_
  | refine G_nilH ?_
  | (refine G_nil ?_; try clear ri_; try clear ops_)
  | (refine V_op ?_; first | exact True.intro | (intro v_ h_ w_ r_ t_; try (obtain ⟨ta_, tb_⟩ := (t_ : _ ∧ _)); try (obtain ⟨tb_, tc_⟩ := (tb_ : _ ∧ _)); try (obtain ⟨tc_, td_⟩ := (tc_ : _ ∧ _)); try (obtain ⟨td_, te_⟩ := (td_ : _ ∧ _))) | intro (ops_ : Array Oper) ri_ | intro (b_ : Bool) hb_ | (intro v_ h_; try (have o_ := FrzK.one h_)) | intro (v_ : Value) | intro (b_ : Nat) | (refine ⟨fun hc => ?_, fun hc => ?_⟩ <;> try (exfalso; omega)) | refine ⟨?_, ?_⟩ | intro _ | skip)
  | (refine Is_DQ ?_; first | (apply DQ_m rfl rfl rfl rfl; focus (intro wq_ Oq_ rq_ mm; (repeat (first | (refine G_nil ?_; exact X_done rfl (List.Sublist.refl _)) | refine V_op ?_)); done)) | (apply DQ_k rfl rfl rfl rfl; intro wq_ Oq_ rq_ mm) | (apply DQ_y rfl rfl rfl rfl; intro wq_ Oq_ rq_ mm)))
    refine panic_ fun w' h' => ?_
    exact ⟨rfl, h'⟩
  · refine enterF (N := 9) (args := [p, I e]) Try.func68 rfl rfl rfl hw ?_
    repeat' (first
  | refine G_nilC ?_
  | refine G_nilN ?_
  | refine G_nilH ?_
  | (refine G_nil ?_; try clear ri_; try clear ops_)
  | (refine V_op ?_; first | exact True.intro | (intro v_ h_ w_ r_ t_; try (obtain ⟨ta_, tb_⟩ := (t_ : _ ∧ _)); try (obtain ⟨tb_, tc_⟩ := (tb_ : _ ∧ _)); try (obtain ⟨tc_, td_⟩ := (tc_ : _ ∧ _)); try (obtain ⟨td_, te_⟩ := (td_ : _ ∧ _))) | intro (ops_ : Array Oper) ri_ | intro (b_ : Bool) hb_ | (intro v_ h_; try (have o_ := FrzK.one h_)) | intro (v_ : Value) | intro (b_ : Nat) | (refine ⟨fun hc => ?_, fun hc => ?_⟩ <;> try (exfalso; omega)) | refine ⟨?_, ?_⟩ | intro _ | skip)
  | (refine Is_DQ ?_; first | (apply DQ_m rfl rfl rfl rfl; focus (intro wq_ Oq_ rq_ mm; (repeat (first | (refine G_nil ?_; exact X_done rfl (List.Sublist.refl _)) | refine V_op ?_)); done)) | (apply DQ_k rfl rfl rfl rfl; intro wq_ Oq_ rq_ mm) | (apply DQ_y rfl rfl rfl rfl; intro wq_ Oq_ rq_ mm)))
    refine panic_ fun w' h' => ?_
    refine ⟨?_, h'⟩
    rw [rotE, if_neg he]; rfl
instance {w0 : World} {O : List Nat} {m : List As} {p : Value} (e : Int) : CallX Try.prog w0 O m 68 [p, I e] True (trbl (rotE e)) m := ⟨fun _ w hw => run_fail w0 O m p e w hw⟩
/-- the reader: all bytes, and those that are left -/
def rdr (b : Nat) (va u : Value) : As := .box b (.cells #[va, u] 82)
theorem run_take (w0 : World) (O : List Nat) (m : List As) (b : Nat) (va u : Value) (xs : List (BitVec 8)) (n : Nat) [h : RdOld w0 O u xs] (hn : n ≤ xs.length) (w : World) (hw : St w0 O (.box b (.cells #[va, u] 82) :: m) w) :
    Calls Try.prog 69 #[.pointer (some ⟨b, 0, none⟩), I n] w (fun x w' => ∃ _ : Unit, True ∧ x = .returned (cut (BitVec 8) u 0 n) ∧ St w0 O (.box b (.cells #[va, cut (BitVec 8) u n xs.length] 82) :: m) w') := by
  have hlen := h.rd.len_le
  refine enterF (N := 31) (args := [.pointer (some ⟨b, 0, none⟩), I n]) Try.func69 rfl rfl rfl hw ?_
  repeat' (first
  | refine G_nilC ?_
  | refine G_nilN ?_
  | refine G_nilH ?_
  | (refine G_nil ?_; try clear ri_; try clear ops_)
  | (refine V_op ?_; first | exact True.intro | (intro v_ h_ w_ r_ t_; try (obtain ⟨ta_, tb_⟩ := (t_ : _ ∧ _)); try (obtain ⟨tb_, tc_⟩ := (tb_ : _ ∧ _)); try (obtain ⟨tc_, td_⟩ := (tc_ : _ ∧ _)); try (obtain ⟨td_, te_⟩ := (td_ : _ ∧ _))) | intro (ops_ : Array Oper) ri_ | intro (b_ : Bool) hb_ | (intro v_ h_; try (have o_ := FrzK.one h_)) | intro (v_ : Value) | intro (b_ : Nat) | (refine ⟨fun hc => ?_, fun hc => ?_⟩ <;> try (exfalso; omega)) | refine ⟨?_, ?_⟩ | intro _ | skip)
  | (refine Is_DQ ?_; first | (apply DQ_m rfl rfl rfl rfl; focus (intro wq_ Oq_ rq_ mm; (repeat (first | (refine G_nil ?_; exact X_done rfl (List.Sublist.refl _)) | refine V_op ?_)); done)) | (apply DQ_k rfl rfl rfl rfl; intro wq_ Oq_ rq_ mm) | (apply DQ_y rfl rfl rfl rfl; intro wq_ Oq_ rq_ mm)))
  refine ret_ rfl (by repeat (first | exact ResAll.nil | (apply ResAll.cons; first | exact .tmp rfl | exact .cell rfl rfl | exact .one rfl))) fun w' h' => ?_
  exact ⟨(), trivial, rfl, h'⟩
theorem run_takeX (w0 : World) (O : List Nat) (m : List As) (b : Nat) (va u : Value) (xs : List (BitVec 8)) (n : Nat) [h : RdOld w0 O u xs] (hn : xs.length < n) (w : World) (hw : St w0 O (.box b (.cells #[va, u] 82) :: m) w) :
    Calls Try.prog 69 #[.pointer (some ⟨b, 0, none⟩), I n] w (fun x w' => x = .panicked (chn (trbl 7)) ∧ St w0 O m w') := by
  have hlen := h.rd.len_le
  refine enterF (N := 31) (args := [.pointer (some ⟨b, 0, none⟩), I n]) Try.func69 rfl rfl rfl hw ?_
  repeat' (first
  | refine G_nilC ?_
  | refine G_nilN ?_
  | refine G_nilH ?_
  | (refine G_nil ?_; try clear ri_; try clear ops_)
  | (refine V_op ?_; first | exact True.intro | (intro v_ h_ w_ r_ t_; try (obtain ⟨ta_, tb_⟩ := (t_ : _ ∧ _)); try (obtain ⟨tb_, tc_⟩ := (tb_ : _ ∧ _)); try (obtain ⟨tc_, td_⟩ := (tc_ : _ ∧ _)); try (obtain ⟨td_, te_⟩ := (td_ : _ ∧ _))) | intro (ops_ : Array Oper) ri_ | intro (b_ : Bool) hb_ | (intro v_ h_; try (have o_ := FrzK.one h_)) | intro (v_ : Value) | intro (b_ : Nat) | (refine ⟨fun hc => ?_, fun hc => ?_⟩ <;> try (exfalso; omega)) | refine ⟨?_, ?_⟩ | intro _ | skip)
  | (refine Is_DQ ?_; first | (apply DQ_m rfl rfl rfl rfl; focus (intro wq_ Oq_ rq_ mm; (repeat (first | (refine G_nil ?_; exact X_done rfl (List.Sublist.refl _)) | refine V_op ?_)); done)) | (apply DQ_k rfl rfl rfl rfl; intro wq_ Oq_ rq_ mm) | (apply DQ_y rfl rfl rfl rfl; intro wq_ Oq_ rq_ mm)))
  refine panic_ fun w' h' => ?_
  exact ⟨rfl, h'.drop (List.sublist_cons_self _ _)⟩
/-- the first n elements, and the rest -/
class Spl {α : Type} (n : Nat) (xs : List α) (a b : outParam (List α)) (side : outParam Prop) : Prop where
  eq : side → n ≤ xs.length ∧ xs.take n = a ∧ xs.drop n = b
instance (priority := high) spl_one {α : Type} {x : α} {t : List α} : Spl 1 (x :: t) [x] t True := ⟨fun _ => ⟨by simp, by simp, by simp⟩⟩
instance (priority := low) spl_any {α : Type} {n : Nat} {xs : List α} : Spl n xs (xs.take n) (xs.drop n) (n ≤ xs.length) := ⟨fun h => ⟨h, rfl, rfl⟩⟩
section
variable {w0 : World} {O : List Nat} {m mk : List As} {b : Nat} {va u : Value} {xs ys zs : List (BitVec 8)} {z : Int} {n : Nat} {sd sd' : Prop}
instance [h : BoxR b m (.cells #[va, u] 82) mk] [hu : RdOld w0 O u xs] [hz : NatR z n sd] [hs : Spl n xs ys zs sd'] : CallR Try.prog w0 O m 69 [.pointer (some ⟨b, 0, none⟩), I z] (sd ∧ sd') (ι := OldV w0 O ys × OldV w0 O zs) (fun _ => True) (fun i => i.1.v) (fun i => .box b (.cells #[va, i.2.v] 82) :: mk) :=
  ⟨fun hq w hw => by
    obtain ⟨h1, rfl, rfl⟩ := hs.eq hq.2
    have e : xs.take n = (xs.drop 0).take (n - 0) := by simp
    rw [hz.eq hq.1]
    refine (run_take w0 O mk b va u xs n h1 w (h.ent.st hw)).mono ?_
    rintro x w' ⟨_, _, h2, h3⟩
    exact ⟨(⟨_, by rw [e]; exact rdOld_cutT hu (Nat.zero_le _) h1⟩, ⟨_, hu.rest h1⟩), trivial, h2, h3⟩⟩
instance [h : BoxR b m (.cells #[va, u] 82) mk] [hu : RdOld w0 O u xs] [hz : NatR z n sd] : CallX Try.prog w0 O m 69 [.pointer (some ⟨b, 0, none⟩), I z] (sd ∧ xs.length < n) (trbl 7) mk :=
  ⟨fun hs w hw => by rw [hz.eq hs.1]; exact run_takeX w0 O mk b va u xs n hs.2 w (h.ent.st hw)⟩
end
/-! ### The first letters -/
def ltGo : List (BitVec 8) → List (BitVec 8) → Except Int Unit
  | [], _ => .ok ()
  | _ :: _, [] => .error 7
  | c :: cs, x :: xs => if x = c then ltGo cs xs else .error 8
def ltL : List (BitVec 8) := [67#8, 72#8, 77#8]
def ltB (bs : List (BitVec 8)) : Except Int Unit := ltGo ltL bs
theorem ltGo_err : ∀ {cs xs : List (BitVec 8)} {e : Int}, ltGo cs xs = .error e → e = 7 ∨ e = 8
  | [], _, e, h => by simp [ltGo] at h
  | _ :: _, [], e, h => by simp only [ltGo, Except.error.injEq] at h; exact .inl h.symm
  | c :: cs, x :: xs, e, h => by
    rw [ltGo] at h
    split at h
    · exact ltGo_err h
    · simp only [Except.error.injEq] at h; exact .inr h.symm
theorem ltGo_len : ∀ {cs xs : List (BitVec 8)}, ltGo cs xs = .ok () → cs.length ≤ xs.length ∧ xs.take cs.length = cs
  | [], _, h => by simp
  | _ :: _, [], h => by simp [ltGo] at h
  | c :: cs, x :: xs, h => by
    rw [ltGo] at h
    split at h
    · rename_i hx
      have := ltGo_len h
      subst hx
      simp [this.1, this.2]
    · cases h
theorem run_letters (w0 : World) (O : List Nat) (m : List As) (b : Nat) (va u : Value) (xs : List (BitVec 8)) [h : RdOld w0 O u xs] (r : Except Int Unit) (hr : ltB xs = r) (w : World) (hw : St w0 O (.box b (.cells #[va, u] 82) :: m) w) :
    Calls Try.prog 64 #[.pointer (some ⟨b, 0, none⟩)] w (fun x w' => match r with
      | .ok _ => ∃ q : OldV w0 O (xs.drop 3), x = .returned (.tuple #[]) ∧ St w0 O (.box b (.cells #[va, q.v] 82) :: m) w'
      | .error e => x = .panicked (chn (trbl e)) ∧ St w0 O m w') := by
  have hlen := h.rd.len_le
  refine enterF (N := 16) (args := [.pointer (some ⟨b, 0, none⟩)]) Try.func64 rfl rfl rfl hw ?_
  repeat' (first
  | refine G_nilC ?_
  | refine G_nilN ?_
  | refine G_nilH ?_
  | (refine G_nil ?_; try clear ri_; try clear ops_)
  | (refine V_op ?_; first | exact True.intro | (intro v_ h_ w_ r_ t_; try (obtain ⟨ta_, tb_⟩ := (t_ : _ ∧ _)); try (obtain ⟨tb_, tc_⟩ := (tb_ : _ ∧ _)); try (obtain ⟨tc_, td_⟩ := (tc_ : _ ∧ _)); try (obtain ⟨td_, te_⟩ := (td_ : _ ∧ _))) | intro (ops_ : Array Oper) ri_ | intro (b_ : Bool) hb_ | (intro v_ h_; try (have o_ := FrzK.one h_)) | intro (v_ : Value) | intro (b_ : Nat) | (refine ⟨fun hc => ?_, fun hc => ?_⟩ <;> try (exfalso; omega)) | refine ⟨?_, ?_⟩ | intro _ | skip)
  | (refine Is_DQ ?_; first | (apply DQ_m rfl rfl rfl rfl; focus (intro wq_ Oq_ rq_ mm; (repeat (first | (refine G_nil ?_; exact X_done rfl (List.Sublist.refl _)) | refine V_op ?_)); done)) | (apply DQ_k rfl rfl rfl rfl; intro wq_ Oq_ rq_ mm) | (apply DQ_y rfl rfl rfl rfl; intro wq_ Oq_ rq_ mm)))
  refine GC_loopS (X := Nat × Value) (fun y => y.1 ≤ 3 ∧ RdOld w0 O y.2 (xs.drop y.1) ∧ ltGo (ltL.drop y.1) (xs.drop y.1) = r) (fun y s => (3, I y.1) :: s) (fun y q => .box b (.cells #[va, y.2] 82) :: q) (fun y => 3 - y.1) (0, u) ⟨by simp, h, hr⟩ (by repeat (first | exact trivial | refine And.intro rfl ?_)) ?_
  rintro ⟨k, q⟩ ⟨hk, hq, hg⟩
  simp only at hk hq hg ⊢
  by_cases hk3 : k < 3
  · have hkk : k = 0 ∨ k = 1 ∨ k = 2 := by omega
    cases hd : xs.drop k with
    | nil =>
      rw [hd] at hg hq
      have hn : ([] : List (BitVec 8)).length = 0 := rfl
      have hgr : r = .error 7 := by
        rw [← hg]
        rcases hkk with rfl | rfl | rfl <;> rfl
      subst hgr
      repeat' (first
  | refine G_nilC ?_
  | refine G_nilN ?_
  | refine G_nilH ?_
  | (refine G_nil ?_; try clear ri_; try clear ops_)
  | (refine V_op ?_; first | exact True.intro | (intro v_ h_ w_ r_ t_; try (obtain ⟨ta_, tb_⟩ := (t_ : _ ∧ _)); try (obtain ⟨tb_, tc_⟩ := (tb_ : _ ∧ _)); try (obtain ⟨tc_, td_⟩ := (tc_ : _ ∧ _)); try (obtain ⟨td_, te_⟩ := (td_ : _ ∧ _))) | intro (ops_ : Array Oper) ri_ | intro (b_ : Bool) hb_ | (intro v_ h_; try (have o_ := FrzK.one h_)) | intro (v_ : Value) | intro (b_ : Nat) | (refine ⟨fun hc => ?_, fun hc => ?_⟩ <;> try (exfalso; omega)) | refine ⟨?_, ?_⟩ | intro _ | skip)
  | (refine Is_DQ ?_; first | (apply DQ_m rfl rfl rfl rfl; focus (intro wq_ Oq_ rq_ mm; (repeat (first | (refine G_nil ?_; exact X_done rfl (List.Sublist.refl _)) | refine V_op ?_)); done)) | (apply DQ_k rfl rfl rfl rfl; intro wq_ Oq_ rq_ mm) | (apply DQ_y rfl rfl rfl rfl; intro wq_ Oq_ rq_ mm)))
      refine GC_drawP (hi := Dr_64_3) [.box b (.cells #[va, q] 82)] ?_
      intro ops_ ri_
      repeat' (first
  | refine G_nilC ?_
  | refine G_nilN ?_
  | refine G_nilH ?_
  | (refine G_nil ?_; try clear ri_; try clear ops_)
  | (refine Is_DQ ?_; apply DQ_m rfl rfl rfl rfl; intro wq_ Oq_ rq_ mm)
  | (refine V_op ?_; first | exact True.intro | (intro v_ h_ w_ r_ t_; try (obtain ⟨ta_, tb_⟩ := (t_ : _ ∧ _)); try (obtain ⟨tb_, tc_⟩ := (tb_ : _ ∧ _)); try (obtain ⟨tc_, td_⟩ := (tc_ : _ ∧ _)); try (obtain ⟨td_, te_⟩ := (td_ : _ ∧ _))) | intro (ops_ : Array Oper) ri_ | intro (b_ : Bool) hb_ | (intro v_ h_; try (have o_ := FrzK.one h_)) | intro (v_ : Value) | intro (b_ : Nat) | (refine ⟨fun hc => ?_, fun hc => ?_⟩ <;> try (exfalso; omega)) | refine ⟨?_, ?_⟩ | intro _ | skip)
  | (refine Is_DQ ?_; first | (apply DQ_m rfl rfl rfl rfl; focus (intro wq_ Oq_ rq_ mm; (repeat (first | (refine G_nil ?_; exact X_done rfl (List.Sublist.refl _)) | refine V_op ?_)); done)) | (apply DQ_k rfl rfl rfl rfl; intro wq_ Oq_ rq_ mm) | (apply DQ_y rfl rfl rfl rfl; intro wq_ Oq_ rq_ mm)))
      refine panic_ fun w' h' => ?_
      exact ⟨rfl, SubM.ent.st h'⟩
    | cons x t =>
      have hdt : xs.drop (k + 1) = t := by rw [← List.drop_drop, hd]; rfl
      rw [hd] at hg hq
      have hn : [x].length = 1 := rfl
      rcases hkk with rfl | rfl | rfl
      · have hbt : (byteAt [67, 72, 77] 0).toNat = 67 := by decide
        by_cases hx : x = 67#8
        · have hxn : x.toNat = 67 := by rw [hx]; rfl
          have hg2 : ltGo (ltL.drop 1) t = r := by rw [← hg]; simp [ltL, ltGo, hx]
          repeat' (first
  | refine G_nilC ?_
  | refine G_nilN ?_
  | refine G_nilH ?_
  | (refine G_nil ?_; try clear ri_; try clear ops_)
  | (refine V_op ?_; first | exact True.intro | (intro v_ h_ w_ r_ t_; try (obtain ⟨ta_, tb_⟩ := (t_ : _ ∧ _)); try (obtain ⟨tb_, tc_⟩ := (tb_ : _ ∧ _)); try (obtain ⟨tc_, td_⟩ := (tc_ : _ ∧ _)); try (obtain ⟨td_, te_⟩ := (td_ : _ ∧ _))) | intro (ops_ : Array Oper) ri_ | intro (b_ : Bool) hb_ | (intro v_ h_; try (have o_ := FrzK.one h_)) | intro (v_ : Value) | intro (b_ : Nat) | (refine ⟨fun hc => ?_, fun hc => ?_⟩ <;> try (exfalso; omega)) | refine ⟨?_, ?_⟩ | intro _ | skip)
  | (refine Is_DQ ?_; first | (apply DQ_m rfl rfl rfl rfl; focus (intro wq_ Oq_ rq_ mm; (repeat (first | (refine G_nil ?_; exact X_done rfl (List.Sublist.refl _)) | refine V_op ?_)); done)) | (apply DQ_k rfl rfl rfl rfl; intro wq_ Oq_ rq_ mm) | (apply DQ_y rfl rfl rfl rfl; intro wq_ Oq_ rq_ mm)))
          refine GC_drawP (hi := Dr_64_3) [.box b (.cells #[va, q] 82)] ?_
          intro ops_ ri_
          repeat' (first
  | refine G_nilC ?_
  | refine G_nilN ?_
  | refine G_nilH ?_
  | (refine G_nil ?_; try clear ri_; try clear ops_)
  | (refine Is_DQ ?_; apply DQ_m rfl rfl rfl rfl; intro wq_ Oq_ rq_ mm)
  | (refine V_op ?_; first | exact True.intro | (intro v_ h_ w_ r_ t_; try (obtain ⟨ta_, tb_⟩ := (t_ : _ ∧ _)); try (obtain ⟨tb_, tc_⟩ := (tb_ : _ ∧ _)); try (obtain ⟨tc_, td_⟩ := (tc_ : _ ∧ _)); try (obtain ⟨td_, te_⟩ := (td_ : _ ∧ _))) | intro (ops_ : Array Oper) ri_ | intro (b_ : Bool) hb_ | (intro v_ h_; try (have o_ := FrzK.one h_)) | intro (v_ : Value) | intro (b_ : Nat) | (refine ⟨fun hc => ?_, fun hc => ?_⟩ <;> try (exfalso; omega)) | refine ⟨?_, ?_⟩ | intro _ | skip)
  | (refine Is_DQ ?_; first | (apply DQ_m rfl rfl rfl rfl; focus (intro wq_ Oq_ rq_ mm; (repeat (first | (refine G_nil ?_; exact X_done rfl (List.Sublist.refl _)) | refine V_op ?_)); done)) | (apply DQ_k rfl rfl rfl rfl; intro wq_ Oq_ rq_ mm) | (apply DQ_y rfl rfl rfl rfl; intro wq_ Oq_ rq_ mm)))
          exact At_roundS (1, v_.2.v) ⟨by simp, by simp only [hdt]; exact v_.2.h, by simp only [hdt]; exact hg2⟩ (by simp only; omega) (by repeat (first | exact trivial | refine And.intro rfl ?_)) (by repeat (first | exact trivial | refine And.intro rfl ?_))
        · have hxn : ¬ x.toNat = 67 := fun h => hx (BitVec.eq_of_toNat_eq h)
          have hgr : r = .error 8 := by rw [← hg]; simp [ltL, ltGo, hx]
          subst hgr
          repeat' (first
  | refine G_nilC ?_
  | refine G_nilN ?_
  | refine G_nilH ?_
  | (refine G_nil ?_; try clear ri_; try clear ops_)
  | (refine V_op ?_; first | exact True.intro | (intro v_ h_ w_ r_ t_; try (obtain ⟨ta_, tb_⟩ := (t_ : _ ∧ _)); try (obtain ⟨tb_, tc_⟩ := (tb_ : _ ∧ _)); try (obtain ⟨tc_, td_⟩ := (tc_ : _ ∧ _)); try (obtain ⟨td_, te_⟩ := (td_ : _ ∧ _))) | intro (ops_ : Array Oper) ri_ | intro (b_ : Bool) hb_ | (intro v_ h_; try (have o_ := FrzK.one h_)) | intro (v_ : Value) | intro (b_ : Nat) | (refine ⟨fun hc => ?_, fun hc => ?_⟩ <;> try (exfalso; omega)) | refine ⟨?_, ?_⟩ | intro _ | skip)
  | (refine Is_DQ ?_; first | (apply DQ_m rfl rfl rfl rfl; focus (intro wq_ Oq_ rq_ mm; (repeat (first | (refine G_nil ?_; exact X_done rfl (List.Sublist.refl _)) | refine V_op ?_)); done)) | (apply DQ_k rfl rfl rfl rfl; intro wq_ Oq_ rq_ mm) | (apply DQ_y rfl rfl rfl rfl; intro wq_ Oq_ rq_ mm)))
          refine GC_drawP (hi := Dr_64_3) [.box b (.cells #[va, q] 82)] ?_
          intro ops_ ri_
          repeat' (first
  | refine G_nilC ?_
  | refine G_nilN ?_
  | refine G_nilH ?_
  | (refine G_nil ?_; try clear ri_; try clear ops_)
  | (refine Is_DQ ?_; apply DQ_m rfl rfl rfl rfl; intro wq_ Oq_ rq_ mm)
  | (refine V_op ?_; first | exact True.intro | (intro v_ h_ w_ r_ t_; try (obtain ⟨ta_, tb_⟩ := (t_ : _ ∧ _)); try (obtain ⟨tb_, tc_⟩ := (tb_ : _ ∧ _)); try (obtain ⟨tc_, td_⟩ := (tc_ : _ ∧ _)); try (obtain ⟨td_, te_⟩ := (td_ : _ ∧ _))) | intro (ops_ : Array Oper) ri_ | intro (b_ : Bool) hb_ | (intro v_ h_; try (have o_ := FrzK.one h_)) | intro (v_ : Value) | intro (b_ : Nat) | (refine ⟨fun hc => ?_, fun hc => ?_⟩ <;> try (exfalso; omega)) | refine ⟨?_, ?_⟩ | intro _ | skip)
  | (refine Is_DQ ?_; first | (apply DQ_m rfl rfl rfl rfl; focus (intro wq_ Oq_ rq_ mm; (repeat (first | (refine G_nil ?_; exact X_done rfl (List.Sublist.refl _)) | refine V_op ?_)); done)) | (apply DQ_k rfl rfl rfl rfl; intro wq_ Oq_ rq_ mm) | (apply DQ_y rfl rfl rfl rfl; intro wq_ Oq_ rq_ mm)))
          refine panic_ fun w' h' => ?_
          exact ⟨rfl, SubM.ent.st h'⟩
      · have hbt : (byteAt [67, 72, 77] 1).toNat = 72 := by decide
        by_cases hx : x = 72#8
        · have hxn : x.toNat = 72 := by rw [hx]; rfl
          have hg2 : ltGo (ltL.drop 2) t = r := by rw [← hg]; simp [ltL, ltGo, hx]
          repeat' (first
  | refine G_nilC ?_
  | refine G_nilN ?_
  | refine G_nilH ?_
  | (refine G_nil ?_; try clear ri_; try clear ops_)
  | (refine V_op ?_; first | exact True.intro | (intro v_ h_ w_ r_ t_; try (obtain ⟨ta_, tb_⟩ := (t_ : _ ∧ _)); try (obtain ⟨tb_, tc_⟩ := (tb_ : _ ∧ _)); try (obtain ⟨tc_, td_⟩ := (tc_ : _ ∧ _)); try (obtain ⟨td_, te_⟩ := (td_ : _ ∧ _))) | intro (ops_ : Array Oper) ri_ | intro (b_ : Bool) hb_ | (intro v_ h_; try (have o_ := FrzK.one h_)) | intro (v_ : Value) | intro (b_ : Nat) | (refine ⟨fun hc => ?_, fun hc => ?_⟩ <;> try (exfalso; omega)) | refine ⟨?_, ?_⟩ | intro _ | skip)
  | (refine Is_DQ ?_; first | (apply DQ_m rfl rfl rfl rfl; focus (intro wq_ Oq_ rq_ mm; (repeat (first | (refine G_nil ?_; exact X_done rfl (List.Sublist.refl _)) | refine V_op ?_)); done)) | (apply DQ_k rfl rfl rfl rfl; intro wq_ Oq_ rq_ mm) | (apply DQ_y rfl rfl rfl rfl; intro wq_ Oq_ rq_ mm)))
          refine GC_drawP (hi := Dr_64_3) [.box b (.cells #[va, q] 82)] ?_
          intro ops_ ri_
          repeat' (first
  | refine G_nilC ?_
  | refine G_nilN ?_
  | refine G_nilH ?_
  | (refine G_nil ?_; try clear ri_; try clear ops_)
  | (refine Is_DQ ?_; apply DQ_m rfl rfl rfl rfl; intro wq_ Oq_ rq_ mm)
  | (refine V_op ?_; first | exact True.intro | (intro v_ h_ w_ r_ t_; try (obtain ⟨ta_, tb_⟩ := (t_ : _ ∧ _)); try (obtain ⟨tb_, tc_⟩ := (tb_ : _ ∧ _)); try (obtain ⟨tc_, td_⟩ := (tc_ : _ ∧ _)); try (obtain ⟨td_, te_⟩ := (td_ : _ ∧ _))) | intro (ops_ : Array Oper) ri_ | intro (b_ : Bool) hb_ | (intro v_ h_; try (have o_ := FrzK.one h_)) | intro (v_ : Value) | intro (b_ : Nat) | (refine ⟨fun hc => ?_, fun hc => ?_⟩ <;> try (exfalso; omega)) | refine ⟨?_, ?_⟩ | intro _ | skip)
  | (refine Is_DQ ?_; first | (apply DQ_m rfl rfl rfl rfl; focus (intro wq_ Oq_ rq_ mm; (repeat (first | (refine G_nil ?_; exact X_done rfl (List.Sublist.refl _)) | refine V_op ?_)); done)) | (apply DQ_k rfl rfl rfl rfl; intro wq_ Oq_ rq_ mm) | (apply DQ_y rfl rfl rfl rfl; intro wq_ Oq_ rq_ mm)))
          exact At_roundS (2, v_.2.v) ⟨by simp, by simp only [hdt]; exact v_.2.h, by simp only [hdt]; exact hg2⟩ (by simp only; omega) (by repeat (first | exact trivial | refine And.intro rfl ?_)) (by repeat (first | exact trivial | refine And.intro rfl ?_))
        · have hxn : ¬ x.toNat = 72 := fun h => hx (BitVec.eq_of_toNat_eq h)
          have hgr : r = .error 8 := by rw [← hg]; simp [ltL, ltGo, hx]
          subst hgr
          repeat' (first
  | refine G_nilC ?_
  | refine G_nilN ?_
  | refine G_nilH ?_
  | (refine G_nil ?_; try clear ri_; try clear ops_)
  | (refine V_op ?_; first | exact True.intro | (intro v_ h_ w_ r_ t_; try (obtain ⟨ta_, tb_⟩ := (t_ : _ ∧ _)); try (obtain ⟨tb_, tc_⟩ := (tb_ : _ ∧ _)); try (obtain ⟨tc_, td_⟩ := (tc_ : _ ∧ _)); try (obtain ⟨td_, te_⟩ := (td_ : _ ∧ _))) | intro (ops_ : Array Oper) ri_ | intro (b_ : Bool) hb_ | (intro v_ h_; try (have o_ := FrzK.one h_)) | intro (v_ : Value) | intro (b_ : Nat) | (refine ⟨fun hc => ?_, fun hc => ?_⟩ <;> try (exfalso; omega)) | refine ⟨?_, ?_⟩ | intro _ | skip)
  | (refine Is_DQ ?_; first | (apply DQ_m rfl rfl rfl rfl; focus (intro wq_ Oq_ rq_ mm; (repeat (first | (refine G_nil ?_; exact X_done rfl (List.Sublist.refl _)) | refine V_op ?_)); done)) | (apply DQ_k rfl rfl rfl rfl; intro wq_ Oq_ rq_ mm) | (apply DQ_y rfl rfl rfl rfl; intro wq_ Oq_ rq_ mm)))
          refine GC_drawP (hi := Dr_64_3) [.box b (.cells #[va, q] 82)] ?_
          intro ops_ ri_
          repeat' (first
  | refine G_nilC ?_
  | refine G_nilN ?_
  | refine G_nilH ?_
  | (refine G_nil ?_; try clear ri_; try clear ops_)
  | (refine Is_DQ ?_; apply DQ_m rfl rfl rfl rfl; intro wq_ Oq_ rq_ mm)
  | (refine V_op ?_; first | exact True.intro | (intro v_ h_ w_ r_ t_; try (obtain ⟨ta_, tb_⟩ := (t_ : _ ∧ _)); try (obtain ⟨tb_, tc_⟩ := (tb_ : _ ∧ _)); try (obtain ⟨tc_, td_⟩ := (tc_ : _ ∧ _)); try (obtain ⟨td_, te_⟩ := (td_ : _ ∧ _))) | intro (ops_ : Array Oper) ri_ | intro (b_ : Bool) hb_ | (intro v_ h_; try (have o_ := FrzK.one h_)) | intro (v_ : Value) | intro (b_ : Nat) | (refine ⟨fun hc => ?_, fun hc => ?_⟩ <;> try (exfalso; omega)) | refine ⟨?_, ?_⟩ | intro _ | skip)
  | (refine Is_DQ ?_; first | (apply DQ_m rfl rfl rfl rfl; focus (intro wq_ Oq_ rq_ mm; (repeat (first | (refine G_nil ?_; exact X_done rfl (List.Sublist.refl _)) | refine V_op ?_)); done)) | (apply DQ_k rfl rfl rfl rfl; intro wq_ Oq_ rq_ mm) | (apply DQ_y rfl rfl rfl rfl; intro wq_ Oq_ rq_ mm)))
          refine panic_ fun w' h' => ?_
          exact ⟨rfl, SubM.ent.st h'⟩
      · have hbt : (byteAt [67, 72, 77] 2).toNat = 77 := by decide
        by_cases hx : x = 77#8
        · have hxn : x.toNat = 77 := by rw [hx]; rfl
          have hg2 : ltGo (ltL.drop 3) t = r := by rw [← hg]; simp [ltL, ltGo, hx]
          repeat' (first
  | refine G_nilC ?_
  | refine G_nilN ?_
  | refine G_nilH ?_
  | (refine G_nil ?_; try clear ri_; try clear ops_)
  | (refine V_op ?_; first | exact True.intro | (intro v_ h_ w_ r_ t_; try (obtain ⟨ta_, tb_⟩ := (t_ : _ ∧ _)); try (obtain ⟨tb_, tc_⟩ := (tb_ : _ ∧ _)); try (obtain ⟨tc_, td_⟩ := (tc_ : _ ∧ _)); try (obtain ⟨td_, te_⟩ := (td_ : _ ∧ _))) | intro (ops_ : Array Oper) ri_ | intro (b_ : Bool) hb_ | (intro v_ h_; try (have o_ := FrzK.one h_)) | intro (v_ : Value) | intro (b_ : Nat) | (refine ⟨fun hc => ?_, fun hc => ?_⟩ <;> try (exfalso; omega)) | refine ⟨?_, ?_⟩ | intro _ | skip)
  | (refine Is_DQ ?_; first | (apply DQ_m rfl rfl rfl rfl; focus (intro wq_ Oq_ rq_ mm; (repeat (first | (refine G_nil ?_; exact X_done rfl (List.Sublist.refl _)) | refine V_op ?_)); done)) | (apply DQ_k rfl rfl rfl rfl; intro wq_ Oq_ rq_ mm) | (apply DQ_y rfl rfl rfl rfl; intro wq_ Oq_ rq_ mm)))
          refine GC_drawP (hi := Dr_64_3) [.box b (.cells #[va, q] 82)] ?_
          intro ops_ ri_
          repeat' (first
  | refine G_nilC ?_
  | refine G_nilN ?_
  | refine G_nilH ?_
  | (refine G_nil ?_; try clear ri_; try clear ops_)
  | (refine Is_DQ ?_; apply DQ_m rfl rfl rfl rfl; intro wq_ Oq_ rq_ mm)
  | (refine V_op ?_; first | exact True.intro | (intro v_ h_ w_ r_ t_; try (obtain ⟨ta_, tb_⟩ := (t_ : _ ∧ _)); try (obtain ⟨tb_, tc_⟩ := (tb_ : _ ∧ _)); try (obtain ⟨tc_, td_⟩ := (tc_ : _ ∧ _)); try (obtain ⟨td_, te_⟩ := (td_ : _ ∧ _))) | intro (ops_ : Array Oper) ri_ | intro (b_ : Bool) hb_ | (intro v_ h_; try (have o_ := FrzK.one h_)) | intro (v_ : Value) | intro (b_ : Nat) | (refine ⟨fun hc => ?_, fun hc => ?_⟩ <;> try (exfalso; omega)) | refine ⟨?_, ?_⟩ | intro _ | skip)
  | (refine Is_DQ ?_; first | (apply DQ_m rfl rfl rfl rfl; focus (intro wq_ Oq_ rq_ mm; (repeat (first | (refine G_nil ?_; exact X_done rfl (List.Sublist.refl _)) | refine V_op ?_)); done)) | (apply DQ_k rfl rfl rfl rfl; intro wq_ Oq_ rq_ mm) | (apply DQ_y rfl rfl rfl rfl; intro wq_ Oq_ rq_ mm)))
          exact At_roundS (3, v_.2.v) ⟨by simp, by simp only [hdt]; exact v_.2.h, by simp only [hdt]; exact hg2⟩ (by simp only; omega) (by repeat (first | exact trivial | refine And.intro rfl ?_)) (by repeat (first | exact trivial | refine And.intro rfl ?_))
        · have hxn : ¬ x.toNat = 77 := fun h => hx (BitVec.eq_of_toNat_eq h)
          have hgr : r = .error 8 := by rw [← hg]; simp [ltL, ltGo, hx]
          subst hgr
          repeat' (first
  | refine G_nilC ?_
  | refine G_nilN ?_
  | refine G_nilH ?_
  | (refine G_nil ?_; try clear ri_; try clear ops_)
  | (refine V_op ?_; first | exact True.intro | (intro v_ h_ w_ r_ t_; try (obtain ⟨ta_, tb_⟩ := (t_ : _ ∧ _)); try (obtain ⟨tb_, tc_⟩ := (tb_ : _ ∧ _)); try (obtain ⟨tc_, td_⟩ := (tc_ : _ ∧ _)); try (obtain ⟨td_, te_⟩ := (td_ : _ ∧ _))) | intro (ops_ : Array Oper) ri_ | intro (b_ : Bool) hb_ | (intro v_ h_; try (have o_ := FrzK.one h_)) | intro (v_ : Value) | intro (b_ : Nat) | (refine ⟨fun hc => ?_, fun hc => ?_⟩ <;> try (exfalso; omega)) | refine ⟨?_, ?_⟩ | intro _ | skip)
  | (refine Is_DQ ?_; first | (apply DQ_m rfl rfl rfl rfl; focus (intro wq_ Oq_ rq_ mm; (repeat (first | (refine G_nil ?_; exact X_done rfl (List.Sublist.refl _)) | refine V_op ?_)); done)) | (apply DQ_k rfl rfl rfl rfl; intro wq_ Oq_ rq_ mm) | (apply DQ_y rfl rfl rfl rfl; intro wq_ Oq_ rq_ mm)))
          refine GC_drawP (hi := Dr_64_3) [.box b (.cells #[va, q] 82)] ?_
          intro ops_ ri_
          repeat' (first
  | refine G_nilC ?_
  | refine G_nilN ?_
  | refine G_nilH ?_
  | (refine G_nil ?_; try clear ri_; try clear ops_)
  | (refine Is_DQ ?_; apply DQ_m rfl rfl rfl rfl; intro wq_ Oq_ rq_ mm)
  | (refine V_op ?_; first | exact True.intro | (intro v_ h_ w_ r_ t_; try (obtain ⟨ta_, tb_⟩ := (t_ : _ ∧ _)); try (obtain ⟨tb_, tc_⟩ := (tb_ : _ ∧ _)); try (obtain ⟨tc_, td_⟩ := (tc_ : _ ∧ _)); try (obtain ⟨td_, te_⟩ := (td_ : _ ∧ _))) | intro (ops_ : Array Oper) ri_ | intro (b_ : Bool) hb_ | (intro v_ h_; try (have o_ := FrzK.one h_)) | intro (v_ : Value) | intro (b_ : Nat) | (refine ⟨fun hc => ?_, fun hc => ?_⟩ <;> try (exfalso; omega)) | refine ⟨?_, ?_⟩ | intro _ | skip)
  | (refine Is_DQ ?_; first | (apply DQ_m rfl rfl rfl rfl; focus (intro wq_ Oq_ rq_ mm; (repeat (first | (refine G_nil ?_; exact X_done rfl (List.Sublist.refl _)) | refine V_op ?_)); done)) | (apply DQ_k rfl rfl rfl rfl; intro wq_ Oq_ rq_ mm) | (apply DQ_y rfl rfl rfl rfl; intro wq_ Oq_ rq_ mm)))
          refine panic_ fun w' h' => ?_
          exact ⟨rfl, SubM.ent.st h'⟩
  · obtain rfl : k = 3 := by omega
    have hgr : r = .ok () := by rw [← hg]; rfl
    subst hgr
    repeat' (first
  | refine G_nilC ?_
  | refine G_nilN ?_
  | refine G_nilH ?_
  | (refine G_nil ?_; try clear ri_; try clear ops_)
  | (refine V_op ?_; first | exact True.intro | (intro v_ h_ w_ r_ t_; try (obtain ⟨ta_, tb_⟩ := (t_ : _ ∧ _)); try (obtain ⟨tb_, tc_⟩ := (tb_ : _ ∧ _)); try (obtain ⟨tc_, td_⟩ := (tc_ : _ ∧ _)); try (obtain ⟨td_, te_⟩ := (td_ : _ ∧ _))) | intro (ops_ : Array Oper) ri_ | intro (b_ : Bool) hb_ | (intro v_ h_; try (have o_ := FrzK.one h_)) | intro (v_ : Value) | intro (b_ : Nat) | (refine ⟨fun hc => ?_, fun hc => ?_⟩ <;> try (exfalso; omega)) | refine ⟨?_, ?_⟩ | intro _ | skip)
  | (refine Is_DQ ?_; first | (apply DQ_m rfl rfl rfl rfl; focus (intro wq_ Oq_ rq_ mm; (repeat (first | (refine G_nil ?_; exact X_done rfl (List.Sublist.refl _)) | refine V_op ?_)); done)) | (apply DQ_k rfl rfl rfl rfl; intro wq_ Oq_ rq_ mm) | (apply DQ_y rfl rfl rfl rfl; intro wq_ Oq_ rq_ mm)))
    refine ret_none_n rfl fun w' h' => ?_
    exact ⟨⟨q, hq⟩, rfl, h'⟩
section
variable {w0 : World} {O : List Nat} {m mk : List As} {b : Nat} {va u : Value} {xs : List (BitVec 8)} {e : Int}
instance {ys : List (BitVec 8)} [h : BoxR b m (.cells #[va, u] 82) mk] [hu : RdOld w0 O u xs] [hr : Eqn (ltB xs) (.ok ())] [he : Eqn (xs.drop 3) ys] : CallR Try.prog w0 O m 64 [.pointer (some ⟨b, 0, none⟩)] True (ι := OldV w0 O ys) (fun _ => True) (fun _ => .tuple #[]) (fun i => .box b (.cells #[va, i.v] 82) :: mk) :=
  ⟨fun _ w hw => (run_letters w0 O mk b va u xs _ hr.eq w (h.ent.st hw)).mono (by
    obtain rfl := he.eq
    rintro x w' ⟨q, h1, h2⟩
    exact ⟨q, trivial, h1, h2⟩)⟩
instance [h : BoxR b m (.cells #[va, u] 82) mk] [hu : RdOld w0 O u xs] [hr : Eqn (ltB xs) (.error e)] : CallX Try.prog w0 O m 64 [.pointer (some ⟨b, 0, none⟩)] True (trbl e) mk :=
  ⟨fun _ w hw => run_letters w0 O mk b va u xs _ hr.eq w (h.ent.st hw)⟩
end
/-! ### Kind, identity, size -/
theorem run_kind (w0 : World) (O : List Nat) (m : List As) (b : Nat) (va u : Value) (x : BitVec 8) (t : List (BitVec 8)) [h : RdOld w0 O u (x :: t)] (hx : 1 ≤ x.toNat ∧ x.toNat ≤ 9) (w : World) (hw : St w0 O (.box b (.cells #[va, u] 82) :: m) w) :
    Calls Try.prog 65 #[.pointer (some ⟨b, 0, none⟩)] w (fun y w' => ∃ q : OldV w0 O t, True ∧ y = .returned (I x.toNat) ∧ St w0 O (.box b (.cells #[va, q.v] 82) :: m) w') := by
  have hn : [x].length = 1 := rfl
  refine enterF (N := 15) (args := [.pointer (some ⟨b, 0, none⟩)]) Try.func65 rfl rfl rfl hw ?_
  repeat' (first
  | refine G_nilC ?_
  | refine G_nilN ?_
  | refine G_nilH ?_
  | (refine G_nil ?_; try clear ri_; try clear ops_)
  | (refine V_op ?_; first | exact True.intro | (intro v_ h_ w_ r_ t_; try (obtain ⟨ta_, tb_⟩ := (t_ : _ ∧ _)); try (obtain ⟨tb_, tc_⟩ := (tb_ : _ ∧ _)); try (obtain ⟨tc_, td_⟩ := (tc_ : _ ∧ _)); try (obtain ⟨td_, te_⟩ := (td_ : _ ∧ _))) | intro (ops_ : Array Oper) ri_ | intro (b_ : Bool) hb_ | (intro v_ h_; try (have o_ := FrzK.one h_)) | intro (v_ : Value) | intro (b_ : Nat) | (refine ⟨fun hc => ?_, fun hc => ?_⟩ <;> try (exfalso; omega)) | refine ⟨?_, ?_⟩ | intro _ | skip)
  | (refine Is_DQ ?_; first | (apply DQ_m rfl rfl rfl rfl; focus (intro wq_ Oq_ rq_ mm; (repeat (first | (refine G_nil ?_; exact X_done rfl (List.Sublist.refl _)) | refine V_op ?_)); done)) | (apply DQ_k rfl rfl rfl rfl; intro wq_ Oq_ rq_ mm) | (apply DQ_y rfl rfl rfl rfl; intro wq_ Oq_ rq_ mm)))
  refine ret_ rfl (by repeat (first | exact ResAll.nil | (apply ResAll.cons; first | exact .tmp rfl | exact .cell rfl rfl | exact .one rfl))) fun w' h' => ?_
  exact ⟨v_.2, trivial, rfl, h'⟩
theorem run_kindX (w0 : World) (O : List Nat) (m : List As) (b : Nat) (va u : Value) (x : BitVec 8) (t : List (BitVec 8)) [h : RdOld w0 O u (x :: t)] (hx : ¬ (1 ≤ x.toNat ∧ x.toNat ≤ 9)) (w : World) (hw : St w0 O (.box b (.cells #[va, u] 82) :: m) w) :
    Calls Try.prog 65 #[.pointer (some ⟨b, 0, none⟩)] w (fun y w' => y = .panicked (chn (trbl 8)) ∧ St w0 O m w') := by
  have hn : [x].length = 1 := rfl
  refine enterF (N := 15) (args := [.pointer (some ⟨b, 0, none⟩)]) Try.func65 rfl rfl rfl hw ?_
  repeat' (first
  | refine G_nilC ?_
  | refine G_nilN ?_
  | refine G_nilH ?_
  | (refine G_nil ?_; try clear ri_; try clear ops_)
  | (refine V_op ?_; first | exact True.intro | (intro v_ h_ w_ r_ t_; try (obtain ⟨ta_, tb_⟩ := (t_ : _ ∧ _)); try (obtain ⟨tb_, tc_⟩ := (tb_ : _ ∧ _)); try (obtain ⟨tc_, td_⟩ := (tc_ : _ ∧ _)); try (obtain ⟨td_, te_⟩ := (td_ : _ ∧ _))) | intro (ops_ : Array Oper) ri_ | intro (b_ : Bool) hb_ | (intro v_ h_; try (have o_ := FrzK.one h_)) | intro (v_ : Value) | intro (b_ : Nat) | (refine ⟨fun hc => ?_, fun hc => ?_⟩ <;> try (exfalso; omega)) | refine ⟨?_, ?_⟩ | intro _ | skip)
  | (refine Is_DQ ?_; first | (apply DQ_m rfl rfl rfl rfl; focus (intro wq_ Oq_ rq_ mm; (repeat (first | (refine G_nil ?_; exact X_done rfl (List.Sublist.refl _)) | refine V_op ?_)); done)) | (apply DQ_k rfl rfl rfl rfl; intro wq_ Oq_ rq_ mm) | (apply DQ_y rfl rfl rfl rfl; intro wq_ Oq_ rq_ mm)))
  refine panic_ fun w' h' => ?_
  exact ⟨rfl, h'.drop (List.sublist_cons_self _ _)⟩
theorem run_kindN (w0 : World) (O : List Nat) (m : List As) (b : Nat) (va u : Value) [h : RdOld w0 O u ([] : List (BitVec 8))] (w : World) (hw : St w0 O (.box b (.cells #[va, u] 82) :: m) w) :
    Calls Try.prog 65 #[.pointer (some ⟨b, 0, none⟩)] w (fun y w' => y = .panicked (chn (trbl 7)) ∧ St w0 O m w') := by
  have hn : ([] : List (BitVec 8)).length = 0 := rfl
  refine enterF (N := 15) (args := [.pointer (some ⟨b, 0, none⟩)]) Try.func65 rfl rfl rfl hw ?_
  repeat' (first
  | refine G_nilC ?_
  | refine G_nilN ?_
  | refine G_nilH ?_
  | (refine G_nil ?_; try clear ri_; try clear ops_)
  | (refine V_op ?_; first | exact True.intro | (intro v_ h_ w_ r_ t_; try (obtain ⟨ta_, tb_⟩ := (t_ : _ ∧ _)); try (obtain ⟨tb_, tc_⟩ := (tb_ : _ ∧ _)); try (obtain ⟨tc_, td_⟩ := (tc_ : _ ∧ _)); try (obtain ⟨td_, te_⟩ := (td_ : _ ∧ _))) | intro (ops_ : Array Oper) ri_ | intro (b_ : Bool) hb_ | (intro v_ h_; try (have o_ := FrzK.one h_)) | intro (v_ : Value) | intro (b_ : Nat) | (refine ⟨fun hc => ?_, fun hc => ?_⟩ <;> try (exfalso; omega)) | refine ⟨?_, ?_⟩ | intro _ | skip)
  | (refine Is_DQ ?_; first | (apply DQ_m rfl rfl rfl rfl; focus (intro wq_ Oq_ rq_ mm; (repeat (first | (refine G_nil ?_; exact X_done rfl (List.Sublist.refl _)) | refine V_op ?_)); done)) | (apply DQ_k rfl rfl rfl rfl; intro wq_ Oq_ rq_ mm) | (apply DQ_y rfl rfl rfl rfl; intro wq_ Oq_ rq_ mm)))
  refine panic_ fun w' h' => ?_
  exact ⟨rfl, h'⟩
end Go.Proofs.Ytdngfkmigpnbnaa
