/- Container: the law's examples. -/
import Derived.Test.YtdngfkmigpnbnaaCnj
import Derived.Test.YtdngfkmigpnbnaaK3
set_option linter.unusedVariables false
set_option linter.unusedSimpArgs false
set_option maxRecDepth 100000
set_option maxHeartbeats 4000000
namespace Go.Proofs.Ytdngfkmigpnbnaa
open Go.RowKit
attribute [local irreducible] G GC At wpL DR XPost CPost Cut GA GAR GAX GAt NxA GH GHR NxH
theorem cmp_1 : cmpI [2, 5] [2, 4, 9] = 1 := by decide
theorem cmp_2 : cmpI [2, 5] [2, 5] = 0 := by decide
theorem cmp_3 : cmpI [2, 5] [2, 5, 0] = -1 := by decide
attribute [local irreducible] fiB opB seB spB sumB cmpI

instance : FrzF 19 := ⟨trivial⟩
instance : FrzF 16 := ⟨trivial⟩
instance : FrzF 20 := ⟨trivial⟩
instance : FrzF 17 := ⟨trivial⟩
theorem op_se {f : Fl} (h : OkF f) : opB (seB f) = .ok f := by
  have := fi_se h []
  rw [List.append_nil] at this
  rw [opB, this]
  simp
theorem op_short {f : Fl} (h : OkF f) {m : Nat} (hm : m < (seB f).length) : opB ((seB f).take m) = .error 7 := by rw [opB, fi_short h hm]
theorem op_more {f : Fl} (h : OkF f) (x : BitVec 8) (r : List (BitVec 8)) : opB (seB f ++ x :: r) = .error 8 := by
  rw [opB, fi_se h]
  simp
theorem op_ok {bs : List (BitVec 8)} {f : Fl} (h : opB bs = .ok f) : OkF f ∧ seB f = bs := by
  rw [opB] at h
  split at h
  · cases h
  · rename_i g n hg
    obtain ⟨h1, h2, h3⟩ := fi_ok hg
    split at h
    · cases h
    · simp only [Except.ok.injEq] at h
      subst h
      rw [List.drop_of_length_le (by omega), List.append_nil] at h2
      exact ⟨h1, h2⟩
theorem op_err {bs : List (BitVec 8)} {e : Int} (h : opB bs = .error e) : e = 7 ∨ e = 8 := by
  rw [opB] at h
  split at h
  · rename_i e1 h1
    simp only [Except.error.injEq] at h
    subst h
    exact fi_err h1
  · split at h
    · simp only [Except.error.injEq] at h; exact .inr h.symm
    · cases h
theorem op_first {x : BitVec 8} {t : List (BitVec 8)} (h : ¬ x = 67#8) : opB (x :: t) = .error 8 := by
  have : ltB (x :: t) = .error 8 := by simp [ltB, ltL, ltGo, h]
  rw [opB, fiB, this]
theorem sp_two {f g : Fl} (h : OkF f) (h' : OkF g) : spB (seB f ++ seB g) = ([f, g], []) := by
  have := sp_app [f, g] [] (by intro x hx; simp at hx; rcases hx with rfl | rfl <;> assumption)
  simp only [List.flatMap_cons, List.flatMap_nil, List.append_nil] at this
  rw [this, sp_err fi_nil]
  rfl
theorem se_ok {f : Fl} (h : OkF f) : seE f = 0 ∧ seR f = seB f := by
  have : seE f = 0 := by
    rw [seE, if_neg (by have := h.k; have := h.id; omega), if_neg (by have := h.da; omega)]
  exact ⟨this, by rw [seR, if_pos this]⟩
theorem ok_ex : OkF ⟨2, [5], [9#8]⟩ := ⟨by simp, by simp, by simp, by intro x hx; simp at hx; subst hx; omega⟩
theorem pack_5 : packB [5] = [1#8, 10#8, 0#8] := by decide +kernel
theorem hd_ex : hdB ⟨2, [5], [9#8]⟩ = [67#8, 72#8, 77#8, 2#8, 1#8, 10#8, 0#8, 1#8, 9#8] := by
  simp only [hdB, pack_5]
  rw [vint_small (by decide)]
  rfl
theorem ex_end (w w1 : World) (O1 : List Nat) (B : List (BitVec 8)) (vi vd vB vo : Value) (b1 b2 b4 : Nat) (lv rv : V1) (fs : List api_File) [One vi] [One vd] [One vB] [RebT w [] w1 O1] [RdOld w1 O1 vi [(5 : Int)]] [RdOld w1 O1 vd [9#8]] [RdOld w1 O1 vB B] [RdOld w1 O1 lv.v fs] [TruL w1 O1 fs] [RdOld w1 O1 rv.v ([] : List (BitVec 8))]
    (h4 : fs.map den = [⟨2, [5], [9#8]⟩, ⟨2, [5], [9#8]⟩]) (hBl : B.length = 17) (lset : (B.set 0 66#8).length = 17) [Eqn (opB (B.set 0 66#8)) (.error 8)] [Eqn (opB B) (.ok ⟨2, [5], [9#8]⟩)] (Q : Exit → Act → World → Prop)
    (k : ∀ w2 O2 [RebT w [] w2 O2], At 102 [] w2 O2 .normal [(0, .bool (decide (cmpI [2, 5] [2, 5, 0] = -1)))] [] Q) :
    GC none Try.prog 102 [] w1 O1 (Go.Code.region 8 #[{ dst := some 55, op := Go.Op.move (Go.Operand.tmp 3), type := 23, pos := "law.go:41", after := #[], guard := none }, { dst := some 56, op := Go.Op.call { callee := Go.Callee.value (Go.Operand.func 19), args := #[Go.Operand.tmp 55], argTypes := #[23] }, type := 42, pos := "law.go:41", after := #[{ on := 0, ground := Go.Ground.data }], guard := none }, { dst := some 57, op := Go.Op.field 42 (Go.Operand.tmp 56) 2, type := 31, pos := "law.go:41", after := #[{ on := 1, ground := Go.Ground.data }], guard := none }, { dst := some 58, op := Go.Op.binOp Go.BinOp.eql 31 (Go.Operand.tmp 57) (Go.Operand.const (Go.Value.int Go.IntKind.i64 8)) 31, type := 4, pos := "law.go:41", after := #[{ on := 2, ground := Go.Ground.data }], guard := none }, { dst := some 59, op := Go.Op.move (Go.Operand.tmp 58), type := 4, pos := "law.go:41", after := #[{ on := 3, ground := Go.Ground.data }, { on := 1, ground := Go.Ground.chain }], guard := none }, { dst := some 60, op := Go.Op.fieldAddr 33 (Go.Operand.tmp 2) 0, type := 0, pos := "law.go:41", after := #[{ on := 4, ground := Go.Ground.guard }], guard := some (4, true) }, { dst := some 61, op := Go.Op.load 23 (Go.Operand.tmp 60), type := 23, pos := "law.go:41", after := #[{ on := 5, ground := Go.Ground.data }, { on := 4, ground := Go.Ground.guard }], guard := some (4, true) }, { dst := some 62, op := Go.Op.call { callee := Go.Callee.value (Go.Operand.func 19), args := #[Go.Operand.tmp 61], argTypes := #[23] }, type := 42, pos := "law.go:41", after := #[{ on := 6, ground := Go.Ground.data }, { on := 4, ground := Go.Ground.chain }, { on := 4, ground := Go.Ground.guard }], guard := some (4, true) }, { dst := some 63, op := Go.Op.load 25 (Go.Operand.tmp 1), type := 25, pos := "law.go:41", after := #[{ on := 4, ground := Go.Ground.guard }], guard := some (4, true) }, { dst := some 64, op := Go.Op.build 42 #[(0, Go.Operand.tmp 63)], type := 42, pos := "law.go:41", after := #[{ on := 8, ground := Go.Ground.data }, { on := 4, ground := Go.Ground.guard }], guard := some (4, true) }, { dst := some 65, op := Go.Op.call { callee := Go.Callee.value (Go.Operand.func 18), args := #[Go.Operand.tmp 62, Go.Operand.tmp 64], argTypes := #[42, 42] }, type := 4, pos := "law.go:41", after := #[{ on := 7, ground := Go.Ground.data }, { on := 9, ground := Go.Ground.data }, { on := 7, ground := Go.Ground.chain }, { on := 4, ground := Go.Ground.guard }], guard := some (4, true) }, { dst := some 66, op := Go.Op.pick (Go.Operand.tmp 59) (Go.Operand.tmp 65) (Go.Operand.const (Go.Value.bool false)), type := 4, pos := "law.go:41", after := #[{ on := 4, ground := Go.Ground.data }, { on := 10, ground := Go.Ground.data }], guard := none }, { dst := some 67, op := Go.Op.move (Go.Operand.tmp 66), type := 4, pos := "law.go:41", after := #[{ on := 11, ground := Go.Ground.data }, { on := 10, ground := Go.Ground.chain }], guard := none }, { dst := some 68, op := Go.Op.fieldAddr 38 (Go.Operand.tmp 4) 0, type := 0, pos := "law.go:41", after := #[{ on := 12, ground := Go.Ground.guard }], guard := some (12, true) }, { dst := some 69, op := Go.Op.load 30 (Go.Operand.tmp 68), type := 30, pos := "law.go:41", after := #[{ on := 13, ground := Go.Ground.data }, { on := 12, ground := Go.Ground.guard }], guard := some (12, true) }, { dst := some 70, op := Go.Op.load 25 (Go.Operand.tmp 1), type := 25, pos := "law.go:41", after := #[{ on := 12, ground := Go.Ground.guard }], guard := some (12, true) }, { dst := some 71, op := Go.Op.load 25 (Go.Operand.tmp 1), type := 25, pos := "law.go:41", after := #[{ on := 12, ground := Go.Ground.guard }], guard := some (12, true) }, { dst := some 72, op := Go.Op.buildSlice 30 2 #[(0, Go.Operand.tmp 70), (1, Go.Operand.tmp 71)], type := 30, pos := "law.go:41", after := #[{ on := 15, ground := Go.Ground.data }, { on := 16, ground := Go.Ground.data }, { on := 12, ground := Go.Ground.guard }], guard := some (12, true) }, { dst := some 73, op := Go.Op.call { callee := Go.Callee.value (Go.Operand.func 21), args := #[Go.Operand.tmp 69, Go.Operand.tmp 72], argTypes := #[30, 30] }, type := 4, pos := "law.go:41", after := #[{ on := 14, ground := Go.Ground.data }, { on := 17, ground := Go.Ground.data }, { on := 12, ground := Go.Ground.chain }, { on := 12, ground := Go.Ground.guard }], guard := some (12, true) }, { dst := some 74, op := Go.Op.pick (Go.Operand.tmp 67) (Go.Operand.tmp 73) (Go.Operand.const (Go.Value.bool false)), type := 4, pos := "law.go:41", after := #[{ on := 12, ground := Go.Ground.data }, { on := 18, ground := Go.Ground.data }], guard := none }, { dst := some 75, op := Go.Op.move (Go.Operand.tmp 74), type := 4, pos := "law.go:41", after := #[{ on := 19, ground := Go.Ground.data }, { on := 18, ground := Go.Ground.chain }], guard := none }, { dst := some 76, op := Go.Op.fieldAddr 38 (Go.Operand.tmp 4) 1, type := 0, pos := "law.go:41", after := #[{ on := 20, ground := Go.Ground.guard }], guard := some (20, true) }, { dst := some 77, op := Go.Op.load 23 (Go.Operand.tmp 76), type := 23, pos := "law.go:41", after := #[{ on := 21, ground := Go.Ground.data }, { on := 20, ground := Go.Ground.guard }], guard := some (20, true) }, { dst := some 78, op := Go.Op.call { callee := Go.Callee.builtin Go.Builtin.len, args := #[Go.Operand.tmp 77], argTypes := #[23] }, type := 3, pos := "law.go:41", after := #[{ on := 22, ground := Go.Ground.data }, { on := 20, ground := Go.Ground.guard }], guard := some (20, true) }, { dst := some 79, op := Go.Op.binOp Go.BinOp.eql 3 (Go.Operand.tmp 78) (Go.Operand.const (Go.Value.int Go.IntKind.i64 0)) 3, type := 4, pos := "law.go:41", after := #[{ on := 23, ground := Go.Ground.data }, { on := 20, ground := Go.Ground.guard }], guard := some (20, true) }, { dst := some 80, op := Go.Op.pick (Go.Operand.tmp 75) (Go.Operand.tmp 79) (Go.Operand.const (Go.Value.bool false)), type := 4, pos := "law.go:41", after := #[{ on := 20, ground := Go.Ground.data }, { on := 24, ground := Go.Ground.data }], guard := none }, { dst := some 81, op := Go.Op.move (Go.Operand.tmp 80), type := 4, pos := "law.go:41", after := #[{ on := 25, ground := Go.Ground.data }, { on := 20, ground := Go.Ground.chain }], guard := none }, { dst := some 82, op := Go.Op.load 25 (Go.Operand.tmp 1), type := 25, pos := "law.go:41", after := #[{ on := 26, ground := Go.Ground.guard }], guard := some (26, true) }, { dst := some 83, op := Go.Op.buildSlice 22 2 #[(0, Go.Operand.const (Go.Value.int Go.IntKind.i64 4)), (1, Go.Operand.const (Go.Value.int Go.IntKind.i64 9))], type := 22, pos := "law.go:41", after := #[{ on := 26, ground := Go.Ground.guard }], guard := some (26, true) }, { dst := some 84, op := Go.Op.build 25 #[(0, Go.Operand.const (Go.Value.int Go.IntKind.i64 2)), (1, Go.Operand.tmp 83)], type := 25, pos := "law.go:41", after := #[{ on := 28, ground := Go.Ground.data }, { on := 26, ground := Go.Ground.guard }], guard := some (26, true) }, { dst := some 85, op := Go.Op.call { callee := Go.Callee.value (Go.Operand.func 14), args := #[Go.Operand.tmp 82, Go.Operand.tmp 84], argTypes := #[25, 25] }, type := 3, pos := "law.go:41", after := #[{ on := 27, ground := Go.Ground.data }, { on := 29, ground := Go.Ground.data }, { on := 26, ground := Go.Ground.chain }, { on := 26, ground := Go.Ground.guard }], guard := some (26, true) }, { dst := some 86, op := Go.Op.binOp Go.BinOp.eql 3 (Go.Operand.tmp 85) (Go.Operand.const (Go.Value.int Go.IntKind.i64 1)) 3, type := 4, pos := "law.go:41", after := #[{ on := 30, ground := Go.Ground.data }, { on := 26, ground := Go.Ground.guard }], guard := some (26, true) }, { dst := some 87, op := Go.Op.pick (Go.Operand.tmp 81) (Go.Operand.tmp 86) (Go.Operand.const (Go.Value.bool false)), type := 4, pos := "law.go:41", after := #[{ on := 26, ground := Go.Ground.data }, { on := 31, ground := Go.Ground.data }], guard := none }, { dst := some 88, op := Go.Op.move (Go.Operand.tmp 87), type := 4, pos := "law.go:41", after := #[{ on := 32, ground := Go.Ground.data }, { on := 30, ground := Go.Ground.chain }], guard := none }, { dst := some 89, op := Go.Op.load 25 (Go.Operand.tmp 1), type := 25, pos := "law.go:41", after := #[{ on := 33, ground := Go.Ground.guard }], guard := some (33, true) }, { dst := some 90, op := Go.Op.buildSlice 22 1 #[(0, Go.Operand.const (Go.Value.int Go.IntKind.i64 5))], type := 22, pos := "law.go:41", after := #[{ on := 33, ground := Go.Ground.guard }], guard := some (33, true) }, { dst := some 91, op := Go.Op.build 25 #[(0, Go.Operand.const (Go.Value.int Go.IntKind.i64 2)), (1, Go.Operand.tmp 90)], type := 25, pos := "law.go:41", after := #[{ on := 35, ground := Go.Ground.data }, { on := 33, ground := Go.Ground.guard }], guard := some (33, true) }, { dst := some 92, op := Go.Op.call { callee := Go.Callee.value (Go.Operand.func 14), args := #[Go.Operand.tmp 89, Go.Operand.tmp 91], argTypes := #[25, 25] }, type := 3, pos := "law.go:41", after := #[{ on := 34, ground := Go.Ground.data }, { on := 36, ground := Go.Ground.data }, { on := 33, ground := Go.Ground.chain }, { on := 33, ground := Go.Ground.guard }], guard := some (33, true) }, { dst := some 93, op := Go.Op.binOp Go.BinOp.eql 3 (Go.Operand.tmp 92) (Go.Operand.const (Go.Value.int Go.IntKind.i64 0)) 3, type := 4, pos := "law.go:41", after := #[{ on := 37, ground := Go.Ground.data }, { on := 33, ground := Go.Ground.guard }], guard := some (33, true) }, { dst := some 94, op := Go.Op.pick (Go.Operand.tmp 88) (Go.Operand.tmp 93) (Go.Operand.const (Go.Value.bool false)), type := 4, pos := "law.go:41", after := #[{ on := 33, ground := Go.Ground.data }, { on := 38, ground := Go.Ground.data }], guard := none }, { dst := some 95, op := Go.Op.move (Go.Operand.tmp 94), type := 4, pos := "law.go:41", after := #[{ on := 39, ground := Go.Ground.data }, { on := 37, ground := Go.Ground.chain }], guard := none }, { dst := some 96, op := Go.Op.load 25 (Go.Operand.tmp 1), type := 25, pos := "law.go:41", after := #[{ on := 40, ground := Go.Ground.guard }], guard := some (40, true) }, { dst := some 97, op := Go.Op.buildSlice 22 2 #[(0, Go.Operand.const (Go.Value.int Go.IntKind.i64 5)), (1, Go.Operand.const (Go.Value.int Go.IntKind.i64 0))], type := 22, pos := "law.go:41", after := #[{ on := 40, ground := Go.Ground.guard }], guard := some (40, true) }, { dst := some 98, op := Go.Op.build 25 #[(0, Go.Operand.const (Go.Value.int Go.IntKind.i64 2)), (1, Go.Operand.tmp 97)], type := 25, pos := "law.go:41", after := #[{ on := 42, ground := Go.Ground.data }, { on := 40, ground := Go.Ground.guard }], guard := some (40, true) }, { dst := some 99, op := Go.Op.call { callee := Go.Callee.value (Go.Operand.func 14), args := #[Go.Operand.tmp 96, Go.Operand.tmp 98], argTypes := #[25, 25] }, type := 3, pos := "law.go:41", after := #[{ on := 41, ground := Go.Ground.data }, { on := 43, ground := Go.Ground.data }, { on := 40, ground := Go.Ground.chain }, { on := 40, ground := Go.Ground.guard }], guard := some (40, true) }, { dst := some 100, op := Go.Op.binOp Go.BinOp.eql 3 (Go.Operand.tmp 99) (Go.Operand.const (Go.Value.int Go.IntKind.i64 (-1))) 3, type := 4, pos := "law.go:41", after := #[{ on := 44, ground := Go.Ground.data }, { on := 40, ground := Go.Ground.guard }], guard := some (40, true) }, { dst := some 101, op := Go.Op.pick (Go.Operand.tmp 95) (Go.Operand.tmp 100) (Go.Operand.const (Go.Value.bool false)), type := 4, pos := "law.go:41", after := #[{ on := 40, ground := Go.Ground.data }, { on := 45, ground := Go.Ground.data }], guard := none }, { dst := some 0, op := Go.Op.assign (Go.Operand.tmp 101), type := 4, pos := "law.go:41", after := #[{ on := 46, ground := Go.Ground.data }, { on := 44, ground := Go.Ground.chain }, { on := 0, ground := Go.Ground.phase }, { on := 1, ground := Go.Ground.phase }, { on := 2, ground := Go.Ground.phase }, { on := 3, ground := Go.Ground.phase }, { on := 4, ground := Go.Ground.phase }, { on := 5, ground := Go.Ground.phase }, { on := 6, ground := Go.Ground.phase }, { on := 7, ground := Go.Ground.phase }, { on := 8, ground := Go.Ground.phase }, { on := 9, ground := Go.Ground.phase }, { on := 10, ground := Go.Ground.phase }, { on := 11, ground := Go.Ground.phase }, { on := 12, ground := Go.Ground.phase }, { on := 13, ground := Go.Ground.phase }, { on := 14, ground := Go.Ground.phase }, { on := 15, ground := Go.Ground.phase }, { on := 16, ground := Go.Ground.phase }, { on := 17, ground := Go.Ground.phase }, { on := 18, ground := Go.Ground.phase }, { on := 19, ground := Go.Ground.phase }, { on := 20, ground := Go.Ground.phase }, { on := 21, ground := Go.Ground.phase }, { on := 22, ground := Go.Ground.phase }, { on := 23, ground := Go.Ground.phase }, { on := 24, ground := Go.Ground.phase }, { on := 25, ground := Go.Ground.phase }, { on := 26, ground := Go.Ground.phase }, { on := 27, ground := Go.Ground.phase }, { on := 28, ground := Go.Ground.phase }, { on := 29, ground := Go.Ground.phase }, { on := 30, ground := Go.Ground.phase }, { on := 31, ground := Go.Ground.phase }, { on := 32, ground := Go.Ground.phase }, { on := 33, ground := Go.Ground.phase }, { on := 34, ground := Go.Ground.phase }, { on := 35, ground := Go.Ground.phase }, { on := 36, ground := Go.Ground.phase }, { on := 37, ground := Go.Ground.phase }, { on := 38, ground := Go.Ground.phase }, { on := 39, ground := Go.Ground.phase }, { on := 40, ground := Go.Ground.phase }, { on := 41, ground := Go.Ground.phase }, { on := 42, ground := Go.Ground.phase }, { on := 43, ground := Go.Ground.phase }, { on := 44, ground := Go.Ground.phase }, { on := 45, ground := Go.Ground.phase }, { on := 46, ground := Go.Ground.phase }], guard := none }] true) [(4, .pointer (some ⟨b4, 0, none⟩)), (3, vo), (2, .pointer (some ⟨b2, 0, none⟩)), (1, .pointer (some ⟨b1, 0, none⟩))]
      [.box b4 (.cells #[lv.v, rv.v] 38), row vo 5 (B.set 0 66#8), .box b2 (.cells #[vB, I 0] 33), .box b1 (.cells #[I 2, vi, vd] 25)] Q := by
  haveI : Fct (cmpI [2, 5] [2, 4, 9] = 1) := ⟨cmp_1⟩
  haveI : Fct (cmpI [2, 5] [2, 5] = 0) := ⟨cmp_2⟩
  haveI : Fct (cmpI [2, 5] [2, 5, 0] = -1) := ⟨cmp_3⟩
  haveI : DenF fs [⟨2, [5], [9#8]⟩, ⟨2, [5], [9#8]⟩] := ⟨h4⟩
  haveI : DenF [⟨2, slOf vi [5], slOf vd [9#8]⟩, ⟨2, slOf vi [5], slOf vd [9#8]⟩] [⟨2, [5], [9#8]⟩, ⟨2, [5], [9#8]⟩] := ⟨rfl⟩
  haveI : SmF [⟨2, [5], [9#8]⟩, ⟨2, [5], [9#8]⟩] := ⟨by intro g hg; simp at hg; subst hg; simp⟩
  clear h4
  repeat' (first
  | refine G_nilC ?_
  | refine G_nilN ?_
  | refine G_nilH ?_
  | (refine G_nil ?_; try clear ri_; try clear ops_)
  | (refine V_op ?_; first | exact True.intro | (intro v_ h_ w_ r_ t_; try (obtain ⟨ta_, tb_⟩ := (t_ : _ ∧ _)); try (obtain ⟨tb_, tc_⟩ := (tb_ : _ ∧ _)); try (obtain ⟨tc_, td_⟩ := (tc_ : _ ∧ _)); try (obtain ⟨td_, te_⟩ := (td_ : _ ∧ _))) | intro (ops_ : Array Oper) ri_ | intro (b_ : Bool) hb_ | (intro v_ h_; try (have o_ := FrzK.one h_)) | intro (v_ : Value) | intro (b_ : Nat) | (refine ⟨fun hc => ?_, fun hc => ?_⟩ <;> try (exfalso; omega)) | refine ⟨?_, ?_⟩ | intro _ | skip)
  | (refine Is_DQ ?_; first | (apply DQ_m rfl rfl rfl rfl; focus (intro wq_ Oq_ rq_ mm; (repeat (first | (refine G_nil ?_; exact X_done rfl (List.Sublist.refl _)) | refine V_op ?_)); done)) | (apply DQ_k rfl rfl rfl rfl; intro wq_ Oq_ rq_ mm) | (apply DQ_y rfl rfl rfl rfl; intro wq_ Oq_ rq_ mm)))
  all_goals exact At_sub (by repeat (first | exact trivial | refine And.intro rfl ?_)) (List.nil_sublist _) (k _ _)
theorem law_examples (w : World) : Calls Try.prog 9 #[] w (Is w (.bool true)) := by
  obtain ⟨B, hB⟩ : ∃ B, seB ⟨2, [5], [9#8]⟩ = B := ⟨_, rfl⟩
  have hse := se_ok ok_ex
  have hB1 : B = hdB ⟨2, [5], [9#8]⟩ ++ sumB (hdB ⟨2, [5], [9#8]⟩) := by rw [← hB, seB]
  rw [hd_ex] at hB1
  have hBl : B.length = 17 := by rw [hB1, List.length_append, sumB_length]; rfl
  haveI : Eqn (seE ⟨2, [5], [9#8]⟩) 0 := ⟨hse.1⟩
  haveI : Eqn (seR ⟨2, [5], [9#8]⟩) B := ⟨by rw [hse.2, hB]⟩
  haveI : Eqn (seE ⟨10, [], []⟩) 1 := ⟨rfl⟩
  haveI : Eqn (seR ⟨10, [], []⟩) [] := ⟨rfl⟩
  haveI : Fct ((B.drop 0).take (9 - 0) = [67#8, 72#8, 77#8, 2#8, 1#8, 10#8, 0#8, 1#8, 9#8]) := ⟨by rw [hB1]; rfl⟩
  haveI : Eqn (opB ((B.drop 0).take (16 - 0))) (.error 7) := ⟨by
    rw [List.drop_zero, Nat.sub_zero, ← hB]
    exact op_short ok_ex (by rw [hB, hBl]; omega)⟩
  haveI : Eqn (opB (B.set 0 66#8)) (.error 8) := ⟨by
    rw [hB1]
    exact op_first (by decide)⟩
  haveI : Eqn (opB B) (.ok ⟨2, [5], [9#8]⟩) := ⟨by rw [← hB]; exact op_se ok_ex⟩
  haveI : Eqn (spB (B ++ B)) ([⟨2, [5], [9#8]⟩, ⟨2, [5], [9#8]⟩], []) := ⟨by rw [← hB]; exact sp_two ok_ex ok_ex⟩
  haveI : Fct (cmpI [2, 5] [2, 4, 9] = 1) := ⟨cmp_1⟩
  haveI : Fct (cmpI [2, 5] [2, 5] = 0) := ⟨cmp_2⟩
  haveI : Fct (cmpI [2, 5] [2, 5, 0] = -1) := ⟨cmp_3⟩
  have hoi : okI [5] := by intro x hx; simp at hx; subst hx; omega
  have hon : okI [] := by intro x hx; simp at hx
  have l16 : ((B.drop 0).take (16 - 0)).length ≤ 17 := by simp only [List.length_take, List.length_drop]; omega
  have lset : (B.set 0 66#8).length = 17 := by rw [List.length_set, hBl]
  have l2 : (B ++ B).length = 34 := by rw [List.length_append, hBl]
  clear hB hB1 hse
  refine enter (N := 102) (args := []) Try.func9 rfl rfl rfl (St.refl w) ?_
  repeat' (first
  | refine G_nilC ?_
  | refine G_nilN ?_
  | refine G_nilH ?_
  | (refine G_nil ?_; try clear ri_; try clear ops_)
  | (refine V_op ?_; first | exact True.intro | (intro v_ h_ w_ r_ t_; try (obtain ⟨ta_, tb_⟩ := (t_ : _ ∧ _)); try (obtain ⟨tb_, tc_⟩ := (tb_ : _ ∧ _)); try (obtain ⟨tc_, td_⟩ := (tc_ : _ ∧ _)); try (obtain ⟨td_, te_⟩ := (td_ : _ ∧ _))) | intro (ops_ : Array Oper) ri_ | intro (b_ : Bool) hb_ | (intro v_ h_; try (have o_ := FrzK.one h_)) | intro (v_ : Value) | intro (b_ : Nat) | (refine ⟨fun hc => ?_, fun hc => ?_⟩ <;> try (exfalso; omega)) | refine ⟨?_, ?_⟩ | intro _ | skip)
  | (refine Is_DQ ?_; first | (apply DQ_m rfl rfl rfl rfl; focus (intro wq_ Oq_ rq_ mm; (repeat (first | (refine G_nil ?_; exact X_done rfl (List.Sublist.refl _)) | refine V_op ?_)); done)) | (apply DQ_k rfl rfl rfl rfl; intro wq_ Oq_ rq_ mm) | (apply DQ_y rfl rfl rfl rfl; intro wq_ Oq_ rq_ mm)))
  rename_i vi vd b1 vB _ _ _ _ _ _ _
  (first | refine G_frz vB ?_ | refine GC_frz vB ?_ | refine At_frz vB ?_); intro w_ _ _ _
  (first | refine G_frz vi ?_ | refine GC_frz vi ?_ | refine At_frz vi ?_); intro w_ _ _ _
  (first | refine G_frz vd ?_ | refine GC_frz vd ?_ | refine At_frz vd ?_); intro w_ _ _ _
  refine GC_cutD (ι := Nat × V1 × List api_File × V1) (fun w O i => (RdOld w O i.2.1.v i.2.2.1 ∧ TruL w O i.2.2.1 ∧ RdOld w O i.2.2.2.v ([] : List (BitVec 8))) ∧ i.2.2.1.map den = [⟨2, [5], [9#8]⟩, ⟨2, [5], [9#8]⟩])
    (fun i => [(4, .pointer (some ⟨i.1, 0, none⟩)), (3, v_), (2, .pointer (some ⟨b_, 0, none⟩)), (1, .pointer (some ⟨b1, 0, none⟩))])
    (fun i => [.box i.1 (.cells #[i.2.1.v, i.2.2.2.v] 38), row v_ 5 (B.set 0 66#8), .box b_ (.cells #[vB, I 0] 33), .box b1 (.cells #[I 2, vi, vd] 25)]) ?_ ?_
  · haveI := Dr_9_7
    repeat' (first
  | refine G_nilC ?_
  | refine G_nilN ?_
  | refine G_nilH ?_
  | (refine G_nil ?_; try clear ri_; try clear ops_)
  | (refine V_op ?_; first | exact True.intro | (intro v_ h_ w_ r_ t_; try (obtain ⟨ta_, tb_⟩ := (t_ : _ ∧ _)); try (obtain ⟨tb_, tc_⟩ := (tb_ : _ ∧ _)); try (obtain ⟨tc_, td_⟩ := (tc_ : _ ∧ _)); try (obtain ⟨td_, te_⟩ := (td_ : _ ∧ _))) | intro (ops_ : Array Oper) ri_ | intro (b_ : Bool) hb_ | (intro v_ h_; try (have o_ := FrzK.one h_)) | intro (v_ : Value) | intro (b_ : Nat) | (refine ⟨fun hc => ?_, fun hc => ?_⟩ <;> try (exfalso; omega)) | refine ⟨?_, ?_⟩ | intro _ | skip)
  | (refine Is_DQ ?_; first | (apply DQ_m rfl rfl rfl rfl; focus (intro wq_ Oq_ rq_ mm; (repeat (first | (refine G_nil ?_; exact X_done rfl (List.Sublist.refl _)) | refine V_op ?_)); done)) | (apply DQ_k rfl rfl rfl rfl; intro wq_ Oq_ rq_ mm) | (apply DQ_y rfl rfl rfl rfl; intro wq_ Oq_ rq_ mm)))
    all_goals exact At_cutD (b_, v_.1, v_.2.1, v_.2.2) (fun w _ => ⟨⟨inferInstance, inferInstance, inferInstance⟩, h_.h⟩) (by repeat (first | exact trivial | refine And.intro rfl ?_))
  · rintro ⟨b4, lv, fs, rv⟩ w1 hr1 ⟨⟨h1, h2, h3⟩, h4⟩
    simp only at h1 h2 h3 h4 ⊢
    refine At_then ?_
    refine GC_seq ?_
    refine ex_end w w1 _ B vi vd vB v_ b1 b_ b4 lv rv fs h4 hBl lset _ fun w2 O2 _ => ?_
    repeat' (first
  | refine G_nilC ?_
  | refine G_nilN ?_
  | refine G_nilH ?_
  | (refine G_nil ?_; try clear ri_; try clear ops_)
  | (refine V_op ?_; first | exact True.intro | (intro v_ h_ w_ r_ t_; try (obtain ⟨ta_, tb_⟩ := (t_ : _ ∧ _)); try (obtain ⟨tb_, tc_⟩ := (tb_ : _ ∧ _)); try (obtain ⟨tc_, td_⟩ := (tc_ : _ ∧ _)); try (obtain ⟨td_, te_⟩ := (td_ : _ ∧ _))) | intro (ops_ : Array Oper) ri_ | intro (b_ : Bool) hb_ | (intro v_ h_; try (have o_ := FrzK.one h_)) | intro (v_ : Value) | intro (b_ : Nat) | (refine ⟨fun hc => ?_, fun hc => ?_⟩ <;> try (exfalso; omega)) | refine ⟨?_, ?_⟩ | intro _ | skip)
  | (refine Is_DQ ?_; first | (apply DQ_m rfl rfl rfl rfl; focus (intro wq_ Oq_ rq_ mm; (repeat (first | (refine G_nil ?_; exact X_done rfl (List.Sublist.refl _)) | refine V_op ?_)); done)) | (apply DQ_k rfl rfl rfl rfl; intro wq_ Oq_ rq_ mm) | (apply DQ_y rfl rfl rfl rfl; intro wq_ Oq_ rq_ mm)))
    refine ret_ rfl (by repeat (first | exact ResAll.nil | (apply ResAll.cons; first | exact .tmp rfl | exact .cell rfl rfl | exact .one rfl))) fun w' h' => ?_
    exact .mkB (by rw [decide_eq_true cmp_3]) h'
end Go.Proofs.Ytdngfkmigpnbnaa
