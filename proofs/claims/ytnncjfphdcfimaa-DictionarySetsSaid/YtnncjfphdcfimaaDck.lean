/- Dictionary: words, equality of what is unpacked. -/
import Derived.Test.YtnncjfphdcfimaaDcj
import Derived.Test.YtnncjfphdcfimaaK3
set_option linter.unusedVariables false
set_option linter.unusedSimpArgs false
set_option maxRecDepth 100000
set_option maxHeartbeats 4000000
namespace Go.Proofs.Ytnncjfphdcfimaa
open Go.RowKit
attribute [local irreducible] G GC At wpL DR XPost CPost Cut GA GAR GAX GAt NxA GH GHR NxH
attribute [local irreducible] ofD srtL cmpL

theorem ref_EqualG (w : World) (e e' : Int) (dv rv dv' rv' : Value) (l l' : List ByteArray) (q q' : List (BitVec 8)) [RdOld w [] dv l] [RdOld w [] rv q] [RdOld w [] dv' l'] [RdOld w [] rv' q'] :
    Calls Try.prog 25 #[.agg #[dv, rv, I e], .agg #[dv', rv', I e']] w (Is w (.bool (decide (e = e' ∧ l = l' ∧ q = q')))) := by
  refine enter (N := 24) (args := [.agg #[dv, rv, I e], .agg #[dv', rv', I e']]) Try.func25 rfl rfl rfl (St.refl w) ?_
  repeat' (first
  | refine G_nilC ?_
  | refine G_nilN ?_
  | refine G_nilH ?_
  | (refine G_nil ?_; try clear ri_; try clear ops_)
  | (refine V_op ?_; first | exact True.intro | (intro v_ h_ w_ r_ t_; try (obtain ⟨ta_, tb_⟩ := (t_ : _ ∧ _)); try (obtain ⟨tb_, tc_⟩ := (tb_ : _ ∧ _)); try (obtain ⟨tc_, td_⟩ := (tc_ : _ ∧ _)); try (obtain ⟨td_, te_⟩ := (td_ : _ ∧ _))) | intro (ops_ : Array Oper) ri_ | intro (b_ : Bool) hb_ | (intro v_ h_; try (have o_ := FrzK.one h_)) | intro (v_ : Value) | intro (b_ : Nat) | (refine ⟨fun hc => ?_, fun hc => ?_⟩ <;> try (exfalso; omega)) | refine ⟨?_, ?_⟩ | intro _ | skip)
  | (refine Is_DQ ?_; first | (apply DQ_m rfl rfl rfl rfl; focus (intro wq_ Oq_ rq_ mm; (repeat (first | (refine G_nil ?_; exact X_done rfl (List.Sublist.refl _)) | refine V_op ?_)); done)) | (apply DQ_k rfl rfl rfl rfl; intro wq_ Oq_ rq_ mm) | (apply DQ_y rfl rfl rfl rfl; intro wq_ Oq_ rq_ mm)))
  all_goals
    refine ret_ rfl (by repeat (first | exact ResAll.nil | (apply ResAll.cons; first | exact .tmp rfl | exact .cell rfl rfl | exact .one rfl))) fun w' h' => ?_
    refine .mk ?_ h'
    simp_all [retV]
instance {w0 : World} {O : List Nat} {m : List As} {e e' : Int} {dv rv dv' rv' : Value} {l l' : List ByteArray} {q q' : List (BitVec 8)} [h1 : RdR w0 O m dv l] [h2 : RdR w0 O m rv q] [h3 : RdR w0 O m dv' l'] [h4 : RdR w0 O m rv' q'] :
    CallV Try.prog w0 O m 25 [.agg #[dv, rv, .int .i64 e], .agg #[dv', rv', .int .i64 e']] True (.bool (decide (e = e' ∧ l = l' ∧ q = q'))) :=
  ⟨fun hs w hw => @ref_EqualG w e e' dv rv dv' rv' l l' q q' (RdOld.of (h1.rd w hw)) (RdOld.of (h2.rd w hw)) (RdOld.of (h3.rd w hw)) (RdOld.of (h4.rd w hw))⟩
theorem law_short (w : World) (v : Value) (d : List ByteArray) [h : RdOld w [] v d] : Calls Try.prog 10 #[v] w (Is w (.bool (decide ((∀ s ∈ d, (bL s).length ≤ 300) ∧ d.length ≤ 30)))) := by
  have hl := h.rd.len_le
  refine enter (N := 23) (args := [v]) Try.func10 rfl rfl rfl (St.refl w) ?_
  repeat' (first
  | refine G_nilC ?_
  | refine G_nilN ?_
  | refine G_nilH ?_
  | (refine G_nil ?_; try clear ri_; try clear ops_)
  | (refine V_op ?_; first | exact True.intro | (intro v_ h_ w_ r_ t_; try (obtain ⟨ta_, tb_⟩ := (t_ : _ ∧ _)); try (obtain ⟨tb_, tc_⟩ := (tb_ : _ ∧ _)); try (obtain ⟨tc_, td_⟩ := (tc_ : _ ∧ _)); try (obtain ⟨td_, te_⟩ := (td_ : _ ∧ _))) | intro (ops_ : Array Oper) ri_ | intro (b_ : Bool) hb_ | (intro v_ h_; try (have o_ := FrzK.one h_)) | intro (v_ : Value) | intro (b_ : Nat) | (refine ⟨fun hc => ?_, fun hc => ?_⟩ <;> try (exfalso; omega)) | refine ⟨?_, ?_⟩ | intro _ | skip)
  | (refine Is_DQ ?_; first | (apply DQ_m rfl rfl rfl rfl; focus (intro wq_ Oq_ rq_ mm; (repeat (first | (refine G_nil ?_; exact X_done rfl (List.Sublist.refl _)) | refine V_op ?_)); done)) | (apply DQ_k rfl rfl rfl rfl; intro wq_ Oq_ rq_ mm) | (apply DQ_y rfl rfl rfl rfl; intro wq_ Oq_ rq_ mm)))
  refine GC_loopS (X := Nat) (fun k => k ≤ d.length ∧ ∀ i (hi : i < d.length), i < k → (bL d[i]).length ≤ 300) (fun k s => (3, I k) :: s) (fun _ q => q) (fun k => d.length - k) 0 ⟨Nat.zero_le _, fun i hi h => by omega⟩ (by repeat (first | exact trivial | refine And.intro rfl ?_)) ?_
  rintro k ⟨hk, hin⟩
  repeat' (first
  | refine G_nilC ?_
  | refine G_nilN ?_
  | refine G_nilH ?_
  | (refine G_nil ?_; try clear ri_; try clear ops_)
  | (refine V_op ?_; first | exact True.intro | (intro v_ h_ w_ r_ t_; try (obtain ⟨ta_, tb_⟩ := (t_ : _ ∧ _)); try (obtain ⟨tb_, tc_⟩ := (tb_ : _ ∧ _)); try (obtain ⟨tc_, td_⟩ := (tc_ : _ ∧ _)); try (obtain ⟨td_, te_⟩ := (td_ : _ ∧ _))) | intro (ops_ : Array Oper) ri_ | intro (b_ : Bool) hb_ | (intro v_ h_; try (have o_ := FrzK.one h_)) | intro (v_ : Value) | intro (b_ : Nat) | (refine ⟨fun hc => ?_, fun hc => ?_⟩ <;> try (exfalso; omega)) | refine ⟨?_, ?_⟩ | intro _ | skip)
  | (refine Is_DQ ?_; first | (apply DQ_m rfl rfl rfl rfl; focus (intro wq_ Oq_ rq_ mm; (repeat (first | (refine G_nil ?_; exact X_done rfl (List.Sublist.refl _)) | refine V_op ?_)); done)) | (apply DQ_k rfl rfl rfl rfl; intro wq_ Oq_ rq_ mm) | (apply DQ_y rfl rfl rfl rfl; intro wq_ Oq_ rq_ mm)))
  · refine ret_ rfl (by repeat (first | exact ResAll.nil | (apply ResAll.cons; first | exact .tmp rfl | exact .cell rfl rfl | exact .one rfl))) fun w' h' => ?_
    exact .mk (by rw [decide_eq_false (fun h => by have := h.1 _ (List.getElem_mem (by omega : k < d.length)); omega)]) h'
  · exact At_roundS (k + 1) ⟨by omega, fun i hi hik => by
      by_cases e : i = k
      · subst e; omega
      · exact hin i hi (by omega)⟩ (by omega) (by repeat (first | exact trivial | refine And.intro rfl ?_)) (by repeat (first | exact trivial | refine And.intro rfl ?_))
  · refine ret_ rfl (by repeat (first | exact ResAll.nil | (apply ResAll.cons; first | exact .tmp rfl | exact .cell rfl rfl | exact .one rfl))) fun w' h' => ?_
    exact .mk (by rw [decide_eq_false (p := (∀ s ∈ d, (bL s).length ≤ 300) ∧ d.length ≤ 30) (fun h => by have := h.2; omega), decide_eq_false (p := (d.length : Int) ≤ 30) (by omega)]) h'
  · refine ret_ rfl (by repeat (first | exact ResAll.nil | (apply ResAll.cons; first | exact .tmp rfl | exact .cell rfl rfl | exact .one rfl))) fun w' h' => ?_
    obtain rfl : k = d.length := by omega
    exact .mk (congrArg (fun b => Ending.returned (Value.bool b)) (decide_eq_decide.2 (⟨fun h => ⟨fun s hs => by
      obtain ⟨i, hi, rfl⟩ := List.mem_iff_getElem.1 hs
      exact hin i hi hi, by omega⟩, fun h => by have := h.2; omega⟩ : (d.length : Int) ≤ 30 ↔ ((∀ s ∈ d, (bL s).length ≤ 300) ∧ d.length ≤ 30)))) h'
instance {w0 : World} {O : List Nat} {m : List As} {v : Value} {d : List ByteArray} [h : RdR w0 O m v d] : CallV Try.prog w0 O m 10 [v] True (.bool (decide ((∀ s ∈ d, (bL s).length ≤ 300) ∧ d.length ≤ 30))) := ⟨fun _ w hw => @law_short w v d (RdOld.of (h.rd w hw))⟩

abbrev wT6 : List ByteArray := [⟨#[]⟩, ⟨#[97]⟩, ⟨#[97, 98]⟩, ⟨#[97, 98, 99]⟩, ⟨#[98]⟩, ⟨#[98, 97]⟩]
abbrev wT4 : List ByteArray := [⟨#[]⟩, ⟨#[97]⟩, ⟨#[99]⟩, ⟨#[97, 98]⟩]
theorem w6_lt (n : Nat) : n % 6 < wT6.length := Nat.mod_lt _ (by decide)
theorem w4_lt (n : Nat) : n / 6 % 4 < wT4.length := Nat.mod_lt _ (by decide)
abbrev wd0 (n : Nat) : List (BitVec 8) := bL (wT6[n % 6]'(w6_lt n)) ++ bL (wT4[n / 6 % 4]'(w4_lt n))
theorem w6_len (n : Nat) : (bL (wT6[n % 6]'(w6_lt n))).length ≤ 3 := by
  have h : ∀ s ∈ wT6, (bL s).length ≤ 3 := by decide
  exact h _ (List.getElem_mem _)
theorem w4_len (n : Nat) : (bL (wT4[n / 6 % 4]'(w4_lt n))).length ≤ 3 := by
  have h : ∀ s ∈ wT4, (bL s).length ≤ 3 := by decide
  exact h _ (List.getElem_mem _)
theorem wd_reg6 {D : List Deferred} {w0 : World} {O : List Nat} {m : List As} {Q : Exit → Act → World → Prop} (n : Nat) (hn : n < 256) (v4 v3 v7 v2 v0 : Value) (k : At 50 D w0 O .normal [(6, .string (ofL (wd0 n))), (5, I n), (4, v4), (3, v3), (7, v7), (2, v2), (0, v0)] m Q) :
    GC none Try.prog 50 D w0 O (Go.Code.region 6 #[{ dst := some 23, op := Go.Op.buildSlice 23 6 #[(0, Go.Operand.const (Go.Value.string { data := #[] })), (1, Go.Operand.const (Go.Value.string { data := #[97] })), (2, Go.Operand.const (Go.Value.string { data := #[97, 98] })), (3, Go.Operand.const (Go.Value.string { data := #[97, 98, 99] })), (4, Go.Operand.const (Go.Value.string { data := #[98] })), (5, Go.Operand.const (Go.Value.string { data := #[98, 97] }))], type := 23, pos := "ref.go:185", after := #[], guard := none }, { dst := some 24, op := Go.Op.move (Go.Operand.tmp 5), type := 3, pos := "ref.go:185", after := #[], guard := none }, { dst := some 25, op := Go.Op.binOp Go.BinOp.rem 3 (Go.Operand.tmp 24) (Go.Operand.const (Go.Value.int Go.IntKind.i64 6)) 3, type := 3, pos := "ref.go:185", after := #[{ on := 1, ground := Go.Ground.data }], guard := none }, { dst := some 26, op := Go.Op.indexAddr 23 (Go.Operand.tmp 23) (Go.Operand.tmp 25), type := 0, pos := "ref.go:185", after := #[{ on := 0, ground := Go.Ground.data }, { on := 2, ground := Go.Ground.data }], guard := none }, { dst := some 27, op := Go.Op.load 9 (Go.Operand.tmp 26), type := 9, pos := "ref.go:185", after := #[{ on := 3, ground := Go.Ground.data }], guard := none }, { dst := some 28, op := Go.Op.buildSlice 23 4 #[(0, Go.Operand.const (Go.Value.string { data := #[] })), (1, Go.Operand.const (Go.Value.string { data := #[97] })), (2, Go.Operand.const (Go.Value.string { data := #[99] })), (3, Go.Operand.const (Go.Value.string { data := #[97, 98] }))], type := 23, pos := "ref.go:185", after := #[], guard := none }, { dst := some 29, op := Go.Op.move (Go.Operand.tmp 5), type := 3, pos := "ref.go:185", after := #[], guard := none }, { dst := some 30, op := Go.Op.binOp Go.BinOp.quo 3 (Go.Operand.tmp 29) (Go.Operand.const (Go.Value.int Go.IntKind.i64 6)) 3, type := 3, pos := "ref.go:185", after := #[{ on := 6, ground := Go.Ground.data }], guard := none }, { dst := some 31, op := Go.Op.binOp Go.BinOp.rem 3 (Go.Operand.tmp 30) (Go.Operand.const (Go.Value.int Go.IntKind.i64 4)) 3, type := 3, pos := "ref.go:185", after := #[{ on := 7, ground := Go.Ground.data }], guard := none }, { dst := some 32, op := Go.Op.indexAddr 23 (Go.Operand.tmp 28) (Go.Operand.tmp 31), type := 0, pos := "ref.go:185", after := #[{ on := 5, ground := Go.Ground.data }, { on := 8, ground := Go.Ground.data }], guard := none }, { dst := some 33, op := Go.Op.load 9 (Go.Operand.tmp 32), type := 9, pos := "ref.go:185", after := #[{ on := 9, ground := Go.Ground.data }], guard := none }, { dst := some 34, op := Go.Op.binOp Go.BinOp.add 9 (Go.Operand.tmp 27) (Go.Operand.tmp 33) 9, type := 9, pos := "ref.go:185", after := #[{ on := 4, ground := Go.Ground.data }, { on := 10, ground := Go.Ground.data }], guard := none }, { dst := some 6, op := Go.Op.assign (Go.Operand.tmp 34), type := 9, pos := "ref.go:185", after := #[{ on := 11, ground := Go.Ground.data }, { on := 0, ground := Go.Ground.phase }, { on := 1, ground := Go.Ground.phase }, { on := 2, ground := Go.Ground.phase }, { on := 3, ground := Go.Ground.phase }, { on := 4, ground := Go.Ground.phase }, { on := 5, ground := Go.Ground.phase }, { on := 6, ground := Go.Ground.phase }, { on := 7, ground := Go.Ground.phase }, { on := 8, ground := Go.Ground.phase }, { on := 9, ground := Go.Ground.phase }, { on := 10, ground := Go.Ground.phase }, { on := 11, ground := Go.Ground.phase }], guard := none }] true) [(5, I n), (4, v4), (3, v3), (7, v7), (2, v2), (0, v0)] m Q := by
  have hT6 : ([⟨#[]⟩, ⟨#[97]⟩, ⟨#[97, 98]⟩, ⟨#[97, 98, 99]⟩, ⟨#[98]⟩, ⟨#[98, 97]⟩] : List ByteArray).length = 6 := rfl
  have hT4 : ([⟨#[]⟩, ⟨#[97]⟩, ⟨#[99]⟩, ⟨#[97, 98]⟩] : List ByteArray).length = 4 := rfl
  have h6 := w6_len n
  have h4 := w4_len n
  have hx : (bL (wT6[n % 6]'(w6_lt n))).length + (bL (wT4[n / 6 % 4]'(w4_lt n))).length ≤ 9223372036854775807 := by omega
  haveI := DrH_11_6
  repeat' (first
  | refine G_nilC ?_
  | refine G_nilN ?_
  | refine G_nilH ?_
  | (refine G_nil ?_; try clear ri_; try clear ops_)
  | (refine V_op ?_; first | exact True.intro | (intro v_ h_ w_ r_ t_; try (obtain ⟨ta_, tb_⟩ := (t_ : _ ∧ _)); try (obtain ⟨tb_, tc_⟩ := (tb_ : _ ∧ _)); try (obtain ⟨tc_, td_⟩ := (tc_ : _ ∧ _)); try (obtain ⟨td_, te_⟩ := (td_ : _ ∧ _))) | intro (ops_ : Array Oper) ri_ | intro (b_ : Bool) hb_ | (intro v_ h_; try (have o_ := FrzK.one h_)) | intro (v_ : Value) | intro (b_ : Nat) | (refine ⟨fun hc => ?_, fun hc => ?_⟩ <;> try (exfalso; omega)) | refine ⟨?_, ?_⟩ | intro _ | skip)
  | (refine Is_DQ ?_; first | (apply DQ_m rfl rfl rfl rfl; focus (intro wq_ Oq_ rq_ mm; (repeat (first | (refine G_nil ?_; exact X_done rfl (List.Sublist.refl _)) | refine V_op ?_)); done)) | (apply DQ_k rfl rfl rfl rfl; intro wq_ Oq_ rq_ mm) | (apply DQ_y rfl rfl rfl rfl; intro wq_ Oq_ rq_ mm)))
  all_goals exact At_sub (by repeat (first | exact trivial | refine And.intro rfl ?_)) (by repeat (first | exact List.Sublist.refl _ | apply List.Sublist.cons)) k
/-- a word of a byte -/
def wdS (x : BitVec 8) : ByteArray := if 240 ≤ x.toNat then ofL (wd0 x.toNat ++ [x, 0#8]) else ofL (wd0 x.toNat)
/-- the words of bytes -/
def wdL (xs : List (BitVec 8)) : List ByteArray := (xs.take 20).map wdS
theorem ref_Words (w : World) (v : Value) (xs : List (BitVec 8)) [h : RdOld w [] v xs] : Calls Try.prog 11 #[v] w (Ret w [] (fun _ : Value => True) (fun r => r) (fun r => [row r 9 (wdL xs)])) := by
  have hl := h.rd.len_le
  refine enter (N := 50) (args := [v]) Try.func11 rfl rfl rfl (St.refl w) ?_
  repeat' (first
  | refine G_nilC ?_
  | refine G_nilN ?_
  | refine G_nilH ?_
  | (refine G_nil ?_; try clear ri_; try clear ops_)
  | (refine V_op ?_; first | exact True.intro | (intro v_ h_ w_ r_ t_; try (obtain ⟨ta_, tb_⟩ := (t_ : _ ∧ _)); try (obtain ⟨tb_, tc_⟩ := (tb_ : _ ∧ _)); try (obtain ⟨tc_, td_⟩ := (tc_ : _ ∧ _)); try (obtain ⟨td_, te_⟩ := (td_ : _ ∧ _))) | intro (ops_ : Array Oper) ri_ | intro (b_ : Bool) hb_ | (intro v_ h_; try (have o_ := FrzK.one h_)) | intro (v_ : Value) | intro (b_ : Nat) | (refine ⟨fun hc => ?_, fun hc => ?_⟩ <;> try (exfalso; omega)) | refine ⟨?_, ?_⟩ | intro _ | skip)
  | (refine Is_DQ ?_; first | (apply DQ_m rfl rfl rfl rfl; focus (intro wq_ Oq_ rq_ mm; (repeat (first | (refine G_nil ?_; exact X_done rfl (List.Sublist.refl _)) | refine V_op ?_)); done)) | (apply DQ_k rfl rfl rfl rfl; intro wq_ Oq_ rq_ mm) | (apply DQ_y rfl rfl rfl rfl; intro wq_ Oq_ rq_ mm)))
  refine GC_loopS (X := Nat × Value) (fun y => y.1 ≤ xs.length ∧ y.1 ≤ 20) (fun y s => (4, I y.1) :: (3, y.2) :: s) (fun y q => row y.2 9 ((xs.take y.1).map wdS) :: q) (fun y => xs.length - y.1) (0, _) ⟨Nat.zero_le _, Nat.zero_le _⟩ (by repeat (first | exact trivial | refine And.intro rfl ?_)) ?_ (want := [row _ 9 ([] : List ByteArray)]) (hm0 := rfl)
  rintro ⟨k, ov⟩ ⟨hk, hk2⟩
  simp only at hk hk2 ⊢
  have hlk : ((xs.take k).map wdS).length ≤ 20 := by rw [List.length_map, List.length_take]; omega
  by_cases hkl : k < xs.length
  · have h6 := w6_len (xs[k]'hkl).toNat
    have h4 := w4_len (xs[k]'hkl).toNat
    have hx : (wd0 (xs[k]'hkl).toNat).length ≤ 10 := by rw [List.length_append]; omega
    have hx2 : (wd0 (xs[k]'hkl).toNat).length + [xs[k]'hkl, 0#8].length ≤ 9223372036854775807 := by simp only [List.length_cons, List.length_nil]; omega
    have hstep : ∀ y, wdS (xs[k]'hkl) = y → (xs.take k).map wdS ++ [y] = (xs.take (k + 1)).map wdS := fun y hy => by rw [List.take_succ_eq_append_getElem hkl, List.map_append, ← hy]; rfl
    repeat' (first
  | refine G_nilC ?_
  | refine G_nilN ?_
  | refine G_nilH ?_
  | (refine G_nil ?_; try clear ri_; try clear ops_)
  | (refine V_op ?_; first | exact True.intro | (intro v_ h_ w_ r_ t_; try (obtain ⟨ta_, tb_⟩ := (t_ : _ ∧ _)); try (obtain ⟨tb_, tc_⟩ := (tb_ : _ ∧ _)); try (obtain ⟨tc_, td_⟩ := (tc_ : _ ∧ _)); try (obtain ⟨td_, te_⟩ := (td_ : _ ∧ _))) | intro (ops_ : Array Oper) ri_ | intro (b_ : Bool) hb_ | (intro v_ h_; try (have o_ := FrzK.one h_)) | intro (v_ : Value) | intro (b_ : Nat) | (refine ⟨fun hc => ?_, fun hc => ?_⟩ <;> try (exfalso; omega)) | refine ⟨?_, ?_⟩ | intro _ | skip)
  | (refine Is_DQ ?_; first | (apply DQ_m rfl rfl rfl rfl; focus (intro wq_ Oq_ rq_ mm; (repeat (first | (refine G_nil ?_; exact X_done rfl (List.Sublist.refl _)) | refine V_op ?_)); done)) | (apply DQ_k rfl rfl rfl rfl; intro wq_ Oq_ rq_ mm) | (apply DQ_y rfl rfl rfl rfl; intro wq_ Oq_ rq_ mm)))
    · refine GC_sub (s' := [(5, I (xs[k]'hkl).toNat), (4, I k), (3, ov), (7, _), (2, _), (0, v)]) (by repeat (first | exact trivial | refine And.intro rfl ?_)) (List.Sublist.refl _) (wd_reg6 _ (xs[k]'hkl).isLt _ _ _ _ _ ?_)
      by_cases hq : 240 ≤ (xs[k]'hkl).toNat
      · haveI : AppN (wd0 (xs[k]'hkl).toNat) [xs[k]'hkl, 0#8] (wd0 (xs[k]'hkl).toNat ++ [xs[k]'hkl, 0#8]) := ⟨rfl⟩
        haveI : AppN ((xs.take k).map wdS) [ofL (wd0 (xs[k]'hkl).toNat ++ [xs[k]'hkl, 0#8])] ((xs.take (k + 1)).map wdS) := ⟨hstep _ (by rw [wdS, if_pos hq])⟩
        repeat' (first
  | refine G_nilC ?_
  | refine G_nilN ?_
  | refine G_nilH ?_
  | (refine G_nil ?_; try clear ri_; try clear ops_)
  | (refine V_op ?_; first | exact True.intro | (intro v_ h_ w_ r_ t_; try (obtain ⟨ta_, tb_⟩ := (t_ : _ ∧ _)); try (obtain ⟨tb_, tc_⟩ := (tb_ : _ ∧ _)); try (obtain ⟨tc_, td_⟩ := (tc_ : _ ∧ _)); try (obtain ⟨td_, te_⟩ := (td_ : _ ∧ _))) | intro (ops_ : Array Oper) ri_ | intro (b_ : Bool) hb_ | (intro v_ h_; try (have o_ := FrzK.one h_)) | intro (v_ : Value) | intro (b_ : Nat) | (refine ⟨fun hc => ?_, fun hc => ?_⟩ <;> try (exfalso; omega)) | refine ⟨?_, ?_⟩ | intro _ | skip)
  | (refine Is_DQ ?_; first | (apply DQ_m rfl rfl rfl rfl; focus (intro wq_ Oq_ rq_ mm; (repeat (first | (refine G_nil ?_; exact X_done rfl (List.Sublist.refl _)) | refine V_op ?_)); done)) | (apply DQ_k rfl rfl rfl rfl; intro wq_ Oq_ rq_ mm) | (apply DQ_y rfl rfl rfl rfl; intro wq_ Oq_ rq_ mm)))
        exact At_roundS (k + 1, v_) ⟨by simp only; omega, by simp only; omega⟩ (by simp only; omega) (by repeat (first | exact trivial | refine And.intro rfl ?_)) (by repeat (first | exact trivial | refine And.intro rfl ?_))
      · haveI : AppN ((xs.take k).map wdS) [ofL (wd0 (xs[k]'hkl).toNat)] ((xs.take (k + 1)).map wdS) := ⟨hstep _ (by rw [wdS, if_neg hq])⟩
        repeat' (first
  | refine G_nilC ?_
  | refine G_nilN ?_
  | refine G_nilH ?_
  | (refine G_nil ?_; try clear ri_; try clear ops_)
  | (refine V_op ?_; first | exact True.intro | (intro v_ h_ w_ r_ t_; try (obtain ⟨ta_, tb_⟩ := (t_ : _ ∧ _)); try (obtain ⟨tb_, tc_⟩ := (tb_ : _ ∧ _)); try (obtain ⟨tc_, td_⟩ := (tc_ : _ ∧ _)); try (obtain ⟨td_, te_⟩ := (td_ : _ ∧ _))) | intro (ops_ : Array Oper) ri_ | intro (b_ : Bool) hb_ | (intro v_ h_; try (have o_ := FrzK.one h_)) | intro (v_ : Value) | intro (b_ : Nat) | (refine ⟨fun hc => ?_, fun hc => ?_⟩ <;> try (exfalso; omega)) | refine ⟨?_, ?_⟩ | intro _ | skip)
  | (refine Is_DQ ?_; first | (apply DQ_m rfl rfl rfl rfl; focus (intro wq_ Oq_ rq_ mm; (repeat (first | (refine G_nil ?_; exact X_done rfl (List.Sublist.refl _)) | refine V_op ?_)); done)) | (apply DQ_k rfl rfl rfl rfl; intro wq_ Oq_ rq_ mm) | (apply DQ_y rfl rfl rfl rfl; intro wq_ Oq_ rq_ mm)))
        exact At_roundS (k + 1, v_) ⟨by simp only; omega, by simp only; omega⟩ (by simp only; omega) (by repeat (first | exact trivial | refine And.intro rfl ?_)) (by repeat (first | exact trivial | refine And.intro rfl ?_))
    · obtain rfl : k = 20 := by omega
      rw [show wdL xs = (xs.take 20).map wdS from rfl]
      refine ret_ rfl (by repeat (first | exact ResAll.nil | (apply ResAll.cons; first | exact .tmp rfl | exact .cell rfl rfl | exact .one rfl))) fun w' h' => ?_
      exact .mk ov trivial rfl h'
  · rw [List.take_of_length_le (by omega)]
    have e : wdL xs = xs.map wdS := by rw [wdL, List.take_of_length_le (by omega)]
    rw [e]
    repeat' (first
  | refine G_nilC ?_
  | refine G_nilN ?_
  | refine G_nilH ?_
  | (refine G_nil ?_; try clear ri_; try clear ops_)
  | (refine V_op ?_; first | exact True.intro | (intro v_ h_ w_ r_ t_; try (obtain ⟨ta_, tb_⟩ := (t_ : _ ∧ _)); try (obtain ⟨tb_, tc_⟩ := (tb_ : _ ∧ _)); try (obtain ⟨tc_, td_⟩ := (tc_ : _ ∧ _)); try (obtain ⟨td_, te_⟩ := (td_ : _ ∧ _))) | intro (ops_ : Array Oper) ri_ | intro (b_ : Bool) hb_ | (intro v_ h_; try (have o_ := FrzK.one h_)) | intro (v_ : Value) | intro (b_ : Nat) | (refine ⟨fun hc => ?_, fun hc => ?_⟩ <;> try (exfalso; omega)) | refine ⟨?_, ?_⟩ | intro _ | skip)
  | (refine Is_DQ ?_; first | (apply DQ_m rfl rfl rfl rfl; focus (intro wq_ Oq_ rq_ mm; (repeat (first | (refine G_nil ?_; exact X_done rfl (List.Sublist.refl _)) | refine V_op ?_)); done)) | (apply DQ_k rfl rfl rfl rfl; intro wq_ Oq_ rq_ mm) | (apply DQ_y rfl rfl rfl rfl; intro wq_ Oq_ rq_ mm)))
    refine ret_ rfl (by repeat (first | exact ResAll.nil | (apply ResAll.cons; first | exact .tmp rfl | exact .cell rfl rfl | exact .one rfl))) fun w' h' => ?_
    exact .mk ov trivial rfl h'
instance {w0 : World} {O : List Nat} {m : List As} {v : Value} {xs : List (BitVec 8)} {l : List ByteArray} [h : RdR w0 O m v xs] [hl : Eqn (wdL xs) l] : CallR Try.prog w0 O m 11 [v] True (fun _ : Value => True) (fun r => r) (fun r => row r 9 l :: m) :=
  .new1 (M := fun r => row r _ l) fun hs w hw => by rw [← hl.eq]; exact @ref_Words w v xs (RdOld.of (h.rd w hw))
theorem wdS_len (x : BitVec 8) : (bL (wdS x)).length ≤ 255 := by
  have h6 := w6_len x.toNat
  have h4 := w4_len x.toNat
  rw [wdS]; split <;> rw [bL_ofL] <;> simp only [List.length_append, List.length_cons, List.length_nil] <;> omega
theorem wdL_len (xs : List (BitVec 8)) : ∀ s ∈ wdL xs, (bL s).length ≤ 255 := fun s hs => by
  obtain ⟨x, _, rfl⟩ := List.mem_map.1 hs
  exact wdS_len x
theorem wdL_length (xs : List (BitVec 8)) : (wdL xs).length ≤ 20 := by rw [wdL, List.length_map, List.length_take]; omega
end Go.Proofs.Ytnncjfphdcfimaa
