/- Own texts of this seat, packed: Vop, Opn, Stc. -/
import Derived.Test.YtaegfjolemehaaaK2
/- One operation: the rules, tried one after the other, in the statement of one theorem. -/
set_option linter.unusedVariables false
set_option linter.unusedSimpArgs false
namespace Go.Proofs.Ytaegfjolemehaaa
open Go.RowKit

def Hide (Y : Prop) : Prop := Y
theorem hide_o {Y : Prop} (k : Hide Y) : Y := k
theorem hide_l {A B : Prop} (k : Hide (A ∧ B)) : A := And.left k
theorem hide_r {A B : Prop} (k : Hide (A ∧ B)) : B := And.right k
theorem hide_t {X : Prop} (k : Hide True) (x : X) : X := x
attribute [irreducible] Hide
section
variable {ro : Option Nat} {P : Program} {N : Nat} {D : List Deferred} {w0 : World} {O : List Nat} {s : List (Nat × Value)} {m : List As} {Q : Exit → Act → World → Prop}
theorem Is_drawI {id d : Nat} {o : Op} {ty : TypeId} {p : String} {af : Array Edge} {g : Option (Nat × Bool)} {r : List Oper} {order cs ds : List Nat} {k : Nat} [hi : DrawI p id d order cs k ds] (h : GC ro P N D w0 O (.region id (⟨some d, o, ty, p, af, g⟩ :: r).toArray true) s m Q) :
    GC ro P N D w0 O (.region id (⟨some d, o, ty, p, af, g⟩ :: r).toArray true) s m Q := h
theorem Is_DQ {ops : Array Oper} {L : List Oper} {cs : List Nat} {k : Nat} {r : List Nat} {q : List As} (h : DQ ro P N D w0 O ops L cs k Q r s q m) : DQ ro P N D w0 O ops L cs k Q r s q m := h
end
theorem V_op {X Y : Prop} (h : Y) (hY : Hide Y → X := by
  intro k
  first
  | (refine Is_G ?_; first
    | (refine Is_move ?_; exact G_move rfl rfl (@hide_o _ k))
    | (refine Is_assign ?_; exact G_assign rfl rfl (@hide_o _ k))
    | (refine Is_bin ?_; first
      | exact G_binR rfl rfl rfl (@hide_o _ k))
    | (refine Is_load ?_; first
      | exact G_loadB rfl rfl rfl (@hide_o _ k)
      | exact G_ldR rfl rfl (@hide_o _ k)
      | exact G_loadA0 rfl rfl rfl (@hide_o _ k)
      | exact G_loadAP rfl rfl (@hide_o _ k))
    | (refine Is_callv ?_; first
      | exact G_callV rfl rfl rfl (@hide_o _ k)
      | exact G_callR rfl rfl rfl (@hide_o _ k)
      | exact G_callD rfl rfl rfl (@hide_o _ k))
    | (refine Is_builtin ?_; exact G_lenR rfl rfl (@hide_o _ k))
    | (refine Is_convert ?_; exact G_convR rfl rfl (@hide_o _ k))
    | (refine Is_indexAddr ?_; first
      | exact G_idxR rfl rfl rfl (@hide_o _ k)
      | exact G_indexA rfl rfl (by first | decide | omega) rfl (@hide_o _ k))
    | (refine Is_extract ?_; first
      | exact G_extractT rfl rfl rfl (@hide_o _ k)
      | exact G_extract rfl rfl rfl (@hide_o _ k))
    | (refine Is_fieldAddr ?_; first
      | exact G_fieldOff rfl rfl (@hide_o _ k)
      | exact G_fieldAny rfl rfl (@hide_o _ k))
    | (refine Is_store ?_; first
      | exact G_storeW rfl rfl rfl (@hide_o _ k)
      | exact G_storeAW rfl rfl rfl rfl (@hide_o _ k)
      | exact G_stR rfl rfl (@hide_o _ k))
    | (refine Is_field ?_; first
      | exact G_fieldS rfl rfl rfl (@hide_o _ k)
      | exact G_fieldG rfl rfl rfl (@hide_o _ k))
    | (refine Is_index ?_; first
      | exact G_indexG rfl rfl (by simp only [List.length_cons, List.length_nil, Nat.reduceAdd, Nat.reduceMul, Nat.zero_mul, List.drop_zero, List.drop_succ_cons, List.take_succ_cons, List.take_zero]; exact rfl) rfl (@hide_o _ k)
      | exact G_indexSc rfl rfl rfl rfl (@hide_o _ k))
    | (refine Is_un ?_; first
      | exact G_notR rfl rfl (@hide_o _ k)
      | exact G_negR rfl rfl (@hide_o _ k))
    | (refine Is_guard ?_; exact G_guardI (@hide_o _ k))
    | (refine Is_pick ?_; first
      | exact G_pickT rfl rfl rfl (@hide_o _ k)
      | exact G_pickF rfl rfl rfl (@hide_o _ k)
      | exact G_pickD rfl (hide_l k) (hide_r k))
    | (refine Is_lit ?_; first
      | exact G_litR rfl rfl rfl rfl rfl (@hide_o _ k)
      | exact G_litD rfl rfl rfl rfl rfl (@hide_o _ k))
    | (refine Is_slice ?_; first
      | exact G_cutLo rfl rfl rfl (@hide_o _ k)
      | exact G_cutHi rfl rfl rfl (@hide_o _ k)
      | exact G_cutBoth rfl rfl rfl rfl (@hide_o _ k))
    | (refine Is_builtin ?_; first
      | exact G_appLit rfl rfl rfl (@hide_o _ k)
      | exact G_appR rfl rfl rfl (@hide_o _ k)
      | exact G_copyT rfl rfl rfl (@hide_o _ k)
      | exact G_copyA rfl rfl rfl (@hide_o _ k)
      | exact G_min rfl rfl rfl rfl (@hide_o _ k)
      | exact G_max rfl rfl rfl rfl (@hide_o _ k))
    | (refine Is_makeFunc ?_; exact G_makeFunc rfl rfl rfl (@hide_o _ k))
    | (refine Is_alloc ?_; first
      | exact G_alloc rfl (@hide_o _ k)
      | exact G_allocA rfl (@hide_o _ k))
    | (refine Is_make ?_; exact G_makeR rfl rfl rfl (@hide_o _ k))
    | (refine Is_box ?_; exact G_boxR rfl rfl (@hide_o _ k))
    | (refine Is_build ?_; exact G_buildR rfl rfl (@hide_o _ k))
    | (refine Is_nilCheck ?_; exact G_nilCheck rfl rfl (@hide_o _ k)))
  | (refine Is_GC ?_; first
    | exact GC_seq (@hide_o _ k)
    | exact GC_regionR (@hide_o _ k)
    | (refine Is_cond ?_; first
      | exact GC_condT rfl (@hide_o _ k)
      | exact GC_condF rfl (@hide_o _ k)
      | exact GC_condD rfl (hide_l k) (hide_r k))
    | exact GC_skip (@hide_o _ k)
    | exact GC_block (@hide_o _ k)
    | exact GC_exit (@hide_o _ k)
    | exact GC_ret (@hide_o _ k)
    | (refine Is_drawI ?_; exact GC_drawI (@hide_o _ k))
    | exact GC_drawA (@hide_o _ k))
  | (refine Is_At ?_; first
    | exact At_then (@hide_o _ k)
    | exact At_then_exit (@hide_o _ k)
    | exact At_then_ret (@hide_o _ k)
    | exact At_block (@hide_o _ k)
    | exact At_block_ret (@hide_o _ k)
    | exact At_block_hit (@hide_o _ k)
    | exact At_block_miss rfl (@hide_o _ k)
    | exact At_roundS_exit (@hide_o _ k)
    | exact At_roundS_ret (@hide_o _ k)
    | exact At_nx (@hide_o _ k)
    | exact At_roundD_exit (@hide_o _ k)
    | exact At_roundD_ret (@hide_o _ k)
    | exact hide_t k (X_done rfl (List.Sublist.refl _))
    | exact C_doneD rfl (@hide_o _ k))
  | (refine Is_GAt ?_; first
    | exact G_guardT rfl (@hide_o _ k)
    | exact G_guardF rfl (@hide_o _ k)
    | exact G_guardTF rfl rfl (@hide_o _ k)
    | exact G_guardFT rfl rfl (@hide_o _ k)
    | exact G_guardUU rfl rfl (@hide_o _ k)
    | exact G_guardD rfl (hide_l k) (hide_r k))
  | (refine Is_GA ?_; first
    | exact GA_done (by decide +kernel) (@hide_o _ k)
    | (refine GA_pick rfl ?_; first
      | exact GX_mv rfl rfl rfl (by decide +kernel) (by decide +kernel) (by decide +kernel) (@hide_o _ k)
      | exact GX_fa rfl rfl rfl (by decide +kernel) (by decide +kernel) (by decide +kernel) (@hide_o _ k)
      | exact GX_cutLo rfl rfl rfl rfl (by decide +kernel) (by decide +kernel) (by decide +kernel) (@hide_o _ k)
      | exact GX_cutHi rfl rfl rfl rfl (by decide +kernel) (by decide +kernel) (by decide +kernel) (@hide_o _ k)
      | exact GX_cutBoth rfl rfl rfl rfl rfl (by decide +kernel) (by decide +kernel) (by decide +kernel) (@hide_o _ k))
    | exact GA_ready (by decide +kernel) (@hide_o _ k))
  | (refine Is_GAR ?_; first
    | exact hide_t k (GAR_end (by decide +kernel))
    | exact GAR_skip (by decide +kernel) (@hide_o _ k)
    | exact GAR_do rfl rfl (hide_l k) (hide_r k))
  | (refine Is_DQ ?_; first
    | exact DQ_nil rfl (@hide_o _ k)
    | exact DR_idx rfl rfl rfl rfl rfl (@hide_o _ k)
    | exact DR_cutLo rfl rfl rfl rfl rfl (@hide_o _ k)
    | exact DR_sliceG rfl (DR_cutLoT rfl rfl rfl rfl rfl rfl (@hide_o _ k))
    | exact DR_cutHi rfl rfl rfl rfl rfl (@hide_o _ k)
    | exact DR_cutBoth rfl rfl rfl rfl rfl rfl (@hide_o _ k)
    | exact DQ_c rfl rfl rfl (@hide_o _ k))) : X := hY (by unfold Hide; exact h)
theorem V_opW {X Y : Prop} (h : Y) (hY : Hide Y → X := by
  intro k
  first
  | (refine Is_G ?_; first
    | (refine Is_move ?_; exact G_move rfl rfl (@hide_o _ k))
    | (refine Is_assign ?_; exact G_assign rfl rfl (@hide_o _ k))
    | (refine Is_bin ?_; first
      | exact G_binR rfl rfl rfl (@hide_o _ k)
      | exact G_eqNil rfl rfl (@hide_o _ k)
      | exact G_addW rfl rfl rfl (@hide_o _ k)
      | exact G_subW rfl rfl rfl (@hide_o _ k)
      | exact G_mulW rfl rfl rfl (@hide_o _ k))
    | (refine Is_load ?_; first
      | exact G_loadB rfl rfl rfl (@hide_o _ k)
      | exact G_ldR rfl rfl (@hide_o _ k)
      | exact G_loadA0 rfl rfl rfl (@hide_o _ k)
      | exact G_loadAP rfl rfl (@hide_o _ k))
    | (refine Is_callv ?_; first
      | exact G_callV rfl rfl rfl (@hide_o _ k)
      | exact G_callR rfl rfl rfl (@hide_o _ k)
      | exact G_callD rfl rfl rfl (@hide_o _ k))
    | (refine Is_builtin ?_; exact G_lenR rfl rfl (@hide_o _ k))
    | (refine Is_convert ?_; exact G_convR rfl rfl (@hide_o _ k))
    | (refine Is_indexAddr ?_; first
      | exact G_idxR rfl rfl rfl (@hide_o _ k)
      | exact G_indexA rfl rfl (by first | decide | omega) rfl (@hide_o _ k))
    | (refine Is_extract ?_; first
      | exact G_extractT rfl rfl rfl (@hide_o _ k)
      | exact G_extract rfl rfl rfl (@hide_o _ k))
    | (refine Is_fieldAddr ?_; first
      | exact G_fieldOff rfl rfl (@hide_o _ k)
      | exact G_fieldAny rfl rfl (@hide_o _ k))
    | (refine Is_store ?_; first
      | exact G_storeW rfl rfl rfl (@hide_o _ k)
      | exact G_storeAW rfl rfl rfl rfl (@hide_o _ k)
      | exact G_stR rfl rfl (@hide_o _ k))
    | (refine Is_field ?_; first
      | exact G_fieldS rfl rfl rfl (@hide_o _ k)
      | exact G_fieldG rfl rfl rfl (@hide_o _ k))
    | (refine Is_index ?_; first
      | exact G_indexG rfl rfl (by simp only [List.length_cons, List.length_nil, Nat.reduceAdd, Nat.reduceMul, Nat.zero_mul, List.drop_zero, List.drop_succ_cons, List.take_succ_cons, List.take_zero]; exact rfl) rfl (@hide_o _ k)
      | exact G_indexSc rfl rfl rfl rfl (@hide_o _ k))
    | (refine Is_un ?_; first
      | exact G_notR rfl rfl (@hide_o _ k)
      | exact G_negR rfl rfl (@hide_o _ k))
    | (refine Is_guard ?_; exact G_guardI (@hide_o _ k))
    | (refine Is_pick ?_; first
      | exact G_pickT rfl rfl rfl (@hide_o _ k)
      | exact G_pickF rfl rfl rfl (@hide_o _ k)
      | exact G_pickD rfl (hide_l k) (hide_r k))
    | (refine Is_lit ?_; first
      | exact G_litR rfl rfl rfl rfl rfl (@hide_o _ k)
      | exact G_litD rfl rfl rfl rfl rfl (@hide_o _ k))
    | (refine Is_slice ?_; first
      | exact G_cutLo rfl rfl rfl (@hide_o _ k)
      | exact G_cutHi rfl rfl rfl (@hide_o _ k)
      | exact G_cutBoth rfl rfl rfl rfl (@hide_o _ k))
    | (refine Is_builtin ?_; first
      | exact G_appLit rfl rfl rfl (@hide_o _ k)
      | exact G_appR rfl rfl rfl (@hide_o _ k)
      | exact G_copyT rfl rfl rfl (@hide_o _ k)
      | exact G_copyA rfl rfl rfl (@hide_o _ k)
      | exact G_min rfl rfl rfl rfl (@hide_o _ k)
      | exact G_max rfl rfl rfl rfl (@hide_o _ k))
    | (refine Is_makeFunc ?_; exact G_makeFunc rfl rfl rfl (@hide_o _ k))
    | (refine Is_alloc ?_; first
      | exact G_alloc rfl (@hide_o _ k)
      | exact G_allocA rfl (@hide_o _ k))
    | (refine Is_make ?_; exact G_makeR rfl rfl rfl (@hide_o _ k))
    | (refine Is_box ?_; exact G_boxR rfl rfl (@hide_o _ k))
    | (refine Is_build ?_; exact G_buildR rfl rfl (@hide_o _ k))
    | (refine Is_nilCheck ?_; exact G_nilCheck rfl rfl (@hide_o _ k)))
  | (refine Is_GC ?_; first
    | exact GC_seq (@hide_o _ k)
    | exact GC_regionR (@hide_o _ k)
    | (refine Is_cond ?_; first
      | exact GC_condT rfl (@hide_o _ k)
      | exact GC_condF rfl (@hide_o _ k)
      | exact GC_condD rfl (hide_l k) (hide_r k))
    | exact GC_skip (@hide_o _ k)
    | exact GC_block (@hide_o _ k)
    | exact GC_exit (@hide_o _ k)
    | exact GC_ret (@hide_o _ k)
    | (refine Is_drawI ?_; exact GC_drawI (@hide_o _ k))
    | exact GC_drawA (@hide_o _ k))
  | (refine Is_At ?_; first
    | exact At_then (@hide_o _ k)
    | exact At_then_exit (@hide_o _ k)
    | exact At_then_ret (@hide_o _ k)
    | exact At_block (@hide_o _ k)
    | exact At_block_ret (@hide_o _ k)
    | exact At_block_hit (@hide_o _ k)
    | exact At_block_miss rfl (@hide_o _ k)
    | exact At_roundS_exit (@hide_o _ k)
    | exact At_roundS_ret (@hide_o _ k)
    | exact At_nx (@hide_o _ k)
    | exact At_roundD_exit (@hide_o _ k)
    | exact At_roundD_ret (@hide_o _ k)
    | exact hide_t k (X_done rfl (List.Sublist.refl _))
    | exact C_doneD rfl (@hide_o _ k))
  | (refine Is_GAt ?_; first
    | exact G_guardT rfl (@hide_o _ k)
    | exact G_guardF rfl (@hide_o _ k)
    | exact G_guardTF rfl rfl (@hide_o _ k)
    | exact G_guardFT rfl rfl (@hide_o _ k)
    | exact G_guardUU rfl rfl (@hide_o _ k)
    | exact G_guardD rfl (hide_l k) (hide_r k))
  | (refine Is_GA ?_; first
    | exact GA_done (by decide +kernel) (@hide_o _ k)
    | (refine GA_pick rfl ?_; first
      | exact GX_mv rfl rfl rfl (by decide +kernel) (by decide +kernel) (by decide +kernel) (@hide_o _ k)
      | exact GX_fa rfl rfl rfl (by decide +kernel) (by decide +kernel) (by decide +kernel) (@hide_o _ k)
      | exact GX_cutLo rfl rfl rfl rfl (by decide +kernel) (by decide +kernel) (by decide +kernel) (@hide_o _ k)
      | exact GX_cutHi rfl rfl rfl rfl (by decide +kernel) (by decide +kernel) (by decide +kernel) (@hide_o _ k)
      | exact GX_cutBoth rfl rfl rfl rfl rfl (by decide +kernel) (by decide +kernel) (by decide +kernel) (@hide_o _ k))
    | exact GA_ready (by decide +kernel) (@hide_o _ k))
  | (refine Is_GAR ?_; first
    | exact hide_t k (GAR_end (by decide +kernel))
    | exact GAR_skip (by decide +kernel) (@hide_o _ k)
    | exact GAR_do rfl rfl (hide_l k) (hide_r k))
  | (refine Is_DQ ?_; first
    | exact DQ_nil rfl (@hide_o _ k)
    | exact DR_idx rfl rfl rfl rfl rfl (@hide_o _ k)
    | exact DR_cutLo rfl rfl rfl rfl rfl (@hide_o _ k)
    | exact DR_sliceG rfl (DR_cutLoT rfl rfl rfl rfl rfl rfl (@hide_o _ k))
    | exact DR_cutHi rfl rfl rfl rfl rfl (@hide_o _ k)
    | exact DR_cutBoth rfl rfl rfl rfl rfl rfl (@hide_o _ k)
    | exact DQ_c rfl rfl rfl (@hide_o _ k))) : X := hY (by unfold Hide; exact h)
end Go.Proofs.Ytaegfjolemehaaa
/- Arguments of any types: what the row's reading of them gives. -/
set_option linter.unusedVariables false
set_option linter.unusedSimpArgs false
namespace Go.Proofs.Ytaegfjolemehaaa
open Go.RowKit Go.ChangeShapes Go.WideShapes Go.ChangeAt

/-! ### Numbers of 16 and 32 digits -/
instance eltU16 : Elt (BitVec 16) where
  sz := 1
  enc n := [.int .u16 (n.toNat : Int)]
  val n := .int .u16 (n.toNat : Int)
  cells _ := rfl
  len _ := rfl
  one _ c h := by simp at h; subst h; rfl
  pos := by decide
instance : Scal (BitVec 16) := ⟨fun _ => rfl, rfl⟩
instance eltU32 : Elt (BitVec 32) where
  sz := 1
  enc n := [.int .u32 (n.toNat : Int)]
  val n := .int .u32 (n.toNat : Int)
  cells _ := rfl
  len _ := rfl
  one _ c h := by simp at h; subst h; rfl
  pos := by decide
instance : Scal (BitVec 32) := ⟨fun _ => rfl, rfl⟩
instance valR_u16 (a : BitVec 16) : ValR a (.int .u16 (a.toNat : Int)) := ⟨rfl⟩
instance valR_u32 (a : BitVec 32) : ValR a (.int .u32 (a.toNat : Int)) := ⟨rfl⟩
theorem u32_of {n : Int} (h : (Lit.int .u32 n).wf = true) : 0 ≤ n ∧ n ≤ 4294967295 := by
  simp only [Lit.wf, IntKind.min, IntKind.max, IntKind.signed, IntKind.bits, Bool.and_eq_true, decide_eq_true_eq] at h
  simp at h
  omega

/-! ### Arrays -/
structure Ar (n : Nat) (α : Type) where
  l : List α
  len : l.length = n
class PosN (n : Nat) : Prop where
  h : 0 < n
instance {n : Nat} : PosN (n + 1) := ⟨by omega⟩
theorem encs_cells {α : Type} [Elt α] (l : List α) : (Value.agg (encs l).toArray).cells = (encs l).toArray := rfl
instance eltAr {n : Nat} {α : Type} [Elt α] [PosN n] : Elt (Ar n α) where
  sz := n * Elt.sz α
  enc x := encs x.l
  val x := .agg (encs x.l).toArray
  cells _ := rfl
  len x := by rw [encs_length, x.len]
  one x c h := encs_one _ c h
  pos := Nat.mul_pos PosN.h Elt.pos
instance {n : Nat} {α : Type} [Elt α] [PosN n] : Aggr (Ar n α) := ⟨fun _ => rfl⟩
instance dpAr {n : Nat} {α : Type} [Dp α] : Dp (Ar n α) := ⟨fun w O x => ∀ y ∈ x.l, Dp.tru w O y, fun hst hO h y hy => Dp.lift hst hO (h y hy)⟩
instance truL_ar {w0 : World} {O : List Nat} {n : Nat} {α : Type} [Dp α] {x : Ar n α} [h : Tru w0 O x] : TruL w0 O x.l := ⟨h.h⟩

/-! ### Numbers are of their kinds -/
class Rng (α : Type) where
  rng : α → Prop
instance rngInt : Rng Int := ⟨fun a => -9223372036854775808 ≤ a ∧ a ≤ 9223372036854775807⟩
instance rngBv (n : Nat) : Rng (BitVec n) := ⟨fun _ => True⟩
instance rngBool : Rng Bool := ⟨fun _ => True⟩
instance rngStr : Rng ByteArray := ⟨fun s => s.size ≤ maxLen⟩
instance rngSl {α : Type} [Rng α] : Rng (Sl α) := ⟨fun s => ∀ x ∈ s.l, Rng.rng x⟩
instance rngAr {n : Nat} {α : Type} [Rng α] : Rng (Ar n α) := ⟨fun s => ∀ x ∈ s.l, Rng.rng x⟩

/-! ### Opening -/
class CellsN (P : Program) (t : TypeId) (n : outParam Nat) : Prop where
  eq : P.cellsOf t = n
class Opn (P : Program) (t : TypeId) (α : outParam Type) [i : outParam (Elt α)] [j : outParam (Dp α)] [k : outParam (Rng α)] : Prop where
  cells : P.cellsOf t = Elt.sz α
  opn : ∀ {H : Type} {enc : TypeId × Value → H} {W : World} {fuel : Nat} {cs : List Value} {x : DataW H × List MemPlace}, DataW.trod enc P W 0 (fun _ => true) true fuel t cs = some x → ∃ a : α, cs = Elt.enc a ∧ Rng.rng a ∧ Dp.tru W [] a
  val : ∀ {W : World} {r : _root_.Go.Reach} {base : Nat} {v : Value} {a : α}, Value.okWide P W r base t v → v.cells.toList = Elt.enc a → v = Elt.val a
section
variable {P : Program} {t e : TypeId} {α : Type}
theorem val_scal {u : TypeDesc} {α : Type} [Elt α] [hs : Scal α] (ht : P.underlying t = some u) (hu : match u with | .bool | .string | .int _ | .slice _ => True | _ => False) {W : World} {r : _root_.Go.Reach} {base : Nat} {v : Value} {a : α} (h : Value.okWide P W r base t v) (hc : v.cells.toList = Elt.enc a) : v = Elt.val a := by
  rw [hs.enc] at hc
  cases v <;> first
    | (simp [Value.cells] at hc; exact hc)
    | (cases u <;> simp_all [Value.okWide, Cell.okWide, Cell.ok])
instance opn_int [h1 : Und P t (.int .i64)] [h2 : CellsN P t 1] : Opn P t Int where
  cells := h2.eq
  opn h := by
    obtain ⟨n, rfl, -, hw⟩ := DataW.trod_int h1.eq h
    exact ⟨n, rfl, i64_of hw, trivial⟩
  val h := val_scal h1.eq trivial h
instance opn_u64 [h1 : Und P t (.int .u64)] [h2 : CellsN P t 1] : Opn P t (BitVec 64) where
  cells := h2.eq
  opn h := by
    obtain ⟨n, rfl, -, hw⟩ := DataW.trod_int h1.eq h
    obtain ⟨x, rfl⟩ := u64_of hw
    exact ⟨x, rfl, trivial, trivial⟩
  val h := val_scal h1.eq trivial h
instance opn_u8 [h1 : Und P t (.int .u8)] [h2 : CellsN P t 1] : Opn P t (BitVec 8) where
  cells := h2.eq
  opn h := by
    obtain ⟨n, rfl, -, hw⟩ := DataW.trod_int h1.eq h
    obtain ⟨x, rfl⟩ := u8_of hw
    exact ⟨x, rfl, trivial, trivial⟩
  val h := val_scal h1.eq trivial h
instance opn_u16 [h1 : Und P t (.int .u16)] [h2 : CellsN P t 1] : Opn P t (BitVec 16) where
  cells := h2.eq
  opn h := by
    obtain ⟨n, rfl, -, hw⟩ := DataW.trod_int h1.eq h
    have := u16_of hw
    exact ⟨BitVec.ofInt 16 n, by simp [Elt.enc]; omega, trivial, trivial⟩
  val h := val_scal h1.eq trivial h
instance opn_u32 [h1 : Und P t (.int .u32)] [h2 : CellsN P t 1] : Opn P t (BitVec 32) where
  cells := h2.eq
  opn h := by
    obtain ⟨n, rfl, -, hw⟩ := DataW.trod_int h1.eq h
    have := u32_of hw
    exact ⟨BitVec.ofInt 32 n, by simp [Elt.enc]; omega, trivial, trivial⟩
  val h := val_scal h1.eq trivial h
instance opn_bool [h1 : Und P t .bool] [h2 : CellsN P t 1] : Opn P t Bool where
  cells := h2.eq
  opn h := by
    obtain ⟨b, rfl, -⟩ := DataW.trod_bool h1.eq h
    exact ⟨b, rfl, trivial, trivial⟩
  val h := val_scal h1.eq trivial h
instance opn_str [h1 : Und P t .string] [h2 : CellsN P t 1] : Opn P t ByteArray where
  cells := h2.eq
  opn h := by
    obtain ⟨s, rfl, -, hw⟩ := DataW.trod_string h1.eq h
    exact ⟨s, rfl, hw, trivial⟩
  val h := val_scal h1.eq trivial h
theorem list_of {α : Type} {p : Nat → α → Prop} : ∀ (n : Nat), (∀ i, i < n → ∃ y, p i y) → ∃ l : List α, l.length = n ∧ ∀ i (h : i < l.length), p i l[i]
  | 0, _ => ⟨[], rfl, fun i h => by simp at h⟩
  | n + 1, h => by
    obtain ⟨l, hl, hp⟩ := list_of n (fun i hi => h i (by omega))
    obtain ⟨y, hy⟩ := h n (by omega)
    refine ⟨l ++ [y], by simp [hl], fun i hi => ?_⟩
    rw [List.getElem_append]
    split
    · exact hp i _
    · have : i = n := by simp at hi; omega
      subst this
      simpa using hy
theorem encs_at [Elt α] {l : List α} {k : Nat} {u : Value} (h : (encs l)[k]? = some u) : ∃ i o, ∃ hi : i < l.length, o < Elt.sz α ∧ k = i * Elt.sz α + o ∧ (Elt.enc l[i])[o]? = some u := by
  have hp : 0 < Elt.sz α := Elt.pos
  have hk := (List.getElem?_eq_some_iff.1 h).1
  rw [encs_length] at hk
  have hi : k / Elt.sz α < l.length := (Nat.div_lt_iff_lt_mul hp).2 hk
  have ho : k % Elt.sz α < Elt.sz α := Nat.mod_lt _ hp
  have e : k = k / Elt.sz α * Elt.sz α + k % Elt.sz α := by rw [Nat.mul_comm]; exact (Nat.div_add_mod _ _).symm
  refine ⟨_, _, hi, ho, e, ?_⟩
  rw [← encs_get hi ho, ← e]
  exact h
instance opn_slice [i : Elt α] [j : Dp α] [k : Rng α] [h1 : Und P t (.slice e)] [h2 : CellsN P t 1] [h3 : Opn P e α] : Opn P t (Sl α) where
  cells := h2.eq
  opn {H enc W fuel cs x} h := by
    rcases DataW.trod_slice h1.eq h with ⟨rfl, _⟩ | ⟨a, len, cap, elems, rest, n, rfl, rfl, -, -, hl, hm, hlen, hel, -, -⟩
    · exact ⟨slNil, rfl, fun y hy => by simp [slNil] at hy, (inferInstance : Tru W [] (slNil : Sl α)).h⟩
    · have key : ∀ i, i < len → ∃ y : α, (∀ o u, (Elt.enc y)[o]? = some u → W.cell? (a.add (i * Elt.sz α + o)) = some u) ∧ Rng.rng y ∧ Dp.tru W [] y := by
        intro i hi
        have h4 := hel i hi
        rw [List.getElem?_eq_getElem (by omega)] at h4
        rw [Option.bind_eq_some_iff] at h4
        obtain ⟨cs', h5, h6⟩ := h4
        obtain ⟨y, rfl, hr, hd⟩ := h3.opn h6
        obtain ⟨_, h7, h8⟩ := World.cells?_some h5
        refine ⟨y, fun o u ho => ?_, hr, hd⟩
        have := h8 o (by have := (List.getElem?_eq_some_iff.1 ho).1; omega)
        rw [h3.cells, addr_addadd] at this
        rw [this, ho]
      obtain ⟨l, hll, hp⟩ := list_of len key
      refine ⟨⟨.slice (some a) len cap, l, rfl⟩, rfl, fun y hy => ?_, ⟨RdO.old ⟨some a, len, cap, rfl, by rw [encs_length, hll], hl, hm, fun _ => ⟨a, rfl, fun q u hu => ?_⟩⟩, fun y hy => ?_⟩⟩
      · obtain ⟨i, hi, rfl⟩ := List.getElem_of_mem hy
        exact (hp i hi).2.1
      · obtain ⟨i, o, hi, ho, rfl, hu'⟩ := encs_at hu
        exact (hp i hi).1 o u hu'
      · obtain ⟨i, hi, rfl⟩ := List.getElem_of_mem hy
        exact (hp i hi).2.2
  val h := val_scal h1.eq trivial h
theorem encs_of [Elt α] : ∀ (l : List α) (cs : List Value), cs.length = l.length * Elt.sz α → (∀ i (h : i < l.length), (cs.drop (i * Elt.sz α)).take (Elt.sz α) = Elt.enc l[i]) → cs = encs l
  | [], cs, h, _ => by simp at h; subst h; rfl
  | a :: l, cs, h, hp => by
    rw [List.length_cons, Nat.add_mul, Nat.one_mul] at h
    have h0 := hp 0 (by simp)
    simp only [Nat.zero_mul, List.drop_zero, List.getElem_cons_zero] at h0
    rw [encs_cons, ← h0, ← encs_of l (cs.drop (Elt.sz α)) (by rw [List.length_drop]; omega) (fun i hi => ?_), List.take_append_drop]
    have := hp (i + 1) (by simp; omega)
    rw [Nat.add_mul, Nat.one_mul, Nat.add_comm, ← List.drop_drop] at this
    simpa using this
theorem val_aggr {α : Type} [Elt α] [hs : Aggr α] {W : World} {r : _root_.Go.Reach} {base : Nat} {v : Value} {a : α} (hu : ∃ u, P.underlying t = some u ∧ match u with | .struct _ | .array _ _ => True | _ => False) (h : Value.okWide P W r base t v) (hc : v.cells.toList = Elt.enc a) : v = Elt.val a := by
  obtain ⟨u, hu, hm⟩ := hu
  rw [hs.val, ← hc]
  cases u <;> simp only [Value.okWide, hu] at h hm <;> (obtain ⟨cs, rfl, _⟩ := h; simp [Value.cells])
instance opn_array {n : Nat} [PosN n] [i : Elt α] [j : Dp α] [k : Rng α] [h1 : Und P t (.array n e)] {c : Nat} [h2 : CellsN P t c] [h3 : Opn P e α] [h4 : Fct (c = n * Elt.sz α)] : Opn P t (Ar n α) where
  cells := by rw [h2.eq]; exact h4.out
  opn {H enc W fuel cs x} h := by
    obtain ⟨xs, m, rfl, rfl, hl, hxl, hat⟩ := DataW.trod_array h1.eq h
    rw [h3.cells] at hat
    rw [h2.eq, h4.out] at hl
    have key : ∀ i, i < n → ∃ y : α, (cs.drop (i * Elt.sz α)).take (Elt.sz α) = Elt.enc y ∧ Rng.rng y ∧ Dp.tru W [] y := by
      intro i hi
      have h5 := hat i hi
      rw [List.getElem?_eq_getElem (by omega)] at h5
      exact h3.opn h5
    obtain ⟨l, hll, hp⟩ := list_of n key
    refine ⟨⟨l, hll⟩, encs_of l cs (by rw [hl, hll]) (fun i hi => (hp i hi).1), fun y hy => ?_, fun y hy => ?_⟩
    · obtain ⟨i, hi, rfl⟩ := List.getElem_of_mem hy
      exact (hp i hi).2.1
    · obtain ⟨i, hi, rfl⟩ := List.getElem_of_mem hy
      exact (hp i hi).2.2
  val h := val_aggr ⟨_, h1.eq, trivial⟩ h
/-- a struct's field -/
theorem opn_field {H : Type} {enc : TypeId × Value → H} {W : World} {m i off ft n : Nat} {fs : Array Field} {cs : List Value} {xs : List (DataW H × List MemPlace)} [Elt α] [Dp α] [Rng α] [h3 : Opn P ft α]
    (hf : ∀ (i : Nat) (f : Field), fs[i]? = some f → DataW.trod enc P W 0 (fun _ => true) true m f.type ((cs.drop f.offset).take (P.cellsOf f.type)) = xs[i]?)
    (h : (fs[i]?).map (fun f => (f.offset, f.type)) = some (off, ft)) (hi : i < xs.length) (hn : Elt.sz α = n) : ∃ a : α, (cs.drop off).take n = Elt.enc a ∧ Rng.rng a ∧ Dp.tru W [] a := by
  cases hfi : fs[i]? with
  | none => rw [hfi] at h; simp at h
  | some f =>
    rw [hfi] at h
    simp only [Option.map_some, Option.some.injEq, Prod.mk.injEq] at h
    obtain ⟨rfl, rfl⟩ := h
    have h5 := hf i f hfi
    rw [List.getElem?_eq_getElem hi, h3.cells, hn] at h5
    exact h3.opn h5
theorem cells_step {cs e : List Value} {o n : Nat} (h : (cs.drop o).take n = e) : cs.drop o = e ++ cs.drop (o + n) := by
  rw [← h, ← List.drop_drop, List.take_append_drop]
/-- an argument -/
theorem opn_arg {H : Type} {enc : TypeId × Value → H} {W : World} {r : _root_.Go.Reach} {base : Nat} {v : Value} {d : DataW H} {p : List MemPlace} [Elt α] [Dp α] [Rng α] [h : Opn P t α] (hv : Value.okWide P W r base t v) (hd : DataW.Trod enc P W 0 (fun _ => true) true t v d p) :
    ∃ a : α, v = Elt.val a ∧ Rng.rng a ∧ Tru W [] a := by
  obtain ⟨fuel, hd⟩ := hd
  obtain ⟨a, hc, hr, ht⟩ := h.opn hd
  exact ⟨a, h.val hv hc, hr, ⟨ht⟩⟩
end
end Go.Proofs.Ytaegfjolemehaaa
/- Structs of fields that are data: elements of slices, their fields. -/
set_option linter.unusedVariables false
set_option linter.unusedSimpArgs false
namespace Go.Proofs.Ytaegfjolemehaaa
open Go.RowKit
instance (priority := low) decW_of {w0 : World} {O : List Nat} {m : List As} {α : Type} [Elt α] {v : Value} {a : α} {p : Prop} [h : DecE α v a p] [hp : Fct p] : DecW w0 O m α v a := ⟨(h.eq hp.out).symm⟩
instance fct_true : Fct True := ⟨trivial⟩
instance zeroE_str : ZeroE ByteArray [.string ⟨#[]⟩] ⟨#[]⟩ := ⟨rfl⟩
instance decE_str (b : ByteArray) : DecE ByteArray (.string b) b True := ⟨fun _ => rfl⟩
instance decE_u16 (x : BitVec 16) : DecE (BitVec 16) (.int .u16 (x.toNat : Int)) x True := ⟨fun _ => rfl⟩
instance decE_u32 (x : BitVec 32) : DecE (BitVec 32) (.int .u32 (x.toNat : Int)) x True := ⟨fun _ => rfl⟩
section
variable {P : Program} {w0 : World} {O : List Nat} {m : List As} {t : TypeId} {v : Value} {j off off' : Nat} {α β γ : Type} [Elt α] [Elt β] [Elt γ] {l : List α} {f : α → β} {g : β → γ}
theorem fldE_trans (hf : FldE α off β f) (hg : FldE β off' γ g) : FldE α (off + off') γ (fun a => g (f a)) := ⟨fun a => by
  have h1 := hf.eq a
  have h2 := hg.eq (f a)
  have h3 := congrArg List.length h2
  rw [Elt.len, List.length_take, List.length_drop, Elt.len] at h3
  rw [← h2, ← h1, ← List.drop_drop, List.drop_take, List.take_take]
  congr 1
  omega⟩
instance ldR_field2 [h : RdR w0 O m v l] [hj : Fct (j < l.length)] [hf : FldE α off β f] [hg : FldE β off' γ g] [hL : Lay P t γ] {u' : Value} [hv : ValR (g (f (l[j]'hj.out))) u'] : LdR P w0 O m t (((elP α v j).add off).add off') u' := ⟨fun w hw => by
  rw [addr_addadd]
  haveI := fldE_trans hf hg
  exact (ldR_field (off := off + off') (f := fun a => g (f a))).ld w hw⟩
end
end Go.Proofs.Ytaegfjolemehaaa
