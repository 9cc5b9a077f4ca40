/- Go's structs as Lean structures, by program. -/
import Derived.Test.YtnncjfphdcfimaaFacts
import Derived.Test.YtnncjfphdcfimaaK3
set_option linter.unusedVariables false
set_option linter.unusedSimpArgs false
set_option maxRecDepth 100000
namespace Go.Proofs.Ytnncjfphdcfimaa
open Go.RowKit
structure chapmanref05_Coded where
  L : (Sl Int)
  E : Int
instance elt_chapmanref05_Coded : Elt chapmanref05_Coded where
  sz := 2
  enc x := [x.L.v, I x.E]
  val x := .agg #[x.L.v, I x.E]
  cells _ := rfl
  len _ := rfl
  one x c h := by
    simp only [List.mem_cons, List.not_mem_nil, or_false] at h
    rcases h with rfl | rfl <;> first | rfl | exact Sl.one _
  pos := by decide
instance agg_chapmanref05_Coded : Aggr chapmanref05_Coded := ⟨fun _ => rfl⟩
instance val_chapmanref05_Coded (x : chapmanref05_Coded) : ValR x (.agg #[x.L.v, I x.E]) := ⟨rfl⟩
instance dp_chapmanref05_Coded : Dp chapmanref05_Coded := ⟨fun w O x => Dp.tru w O x.L ∧ Dp.tru w O x.E, fun hst hO h => ⟨Dp.lift hst hO h.1, Dp.lift hst hO h.2⟩⟩
instance tru_chapmanref05_Coded_L {w0 : World} {O : List Nat} {x : chapmanref05_Coded} [h : Tru w0 O x] : Tru w0 O x.L := ⟨h.h.1⟩
instance tru_chapmanref05_Coded_mk {w0 : World} {O : List Nat} {a0 : (Sl Int)} {a1 : Int} [h0 : Tru w0 O a0] [h1 : Tru w0 O a1] : Tru w0 O (chapmanref05_Coded.mk a0 a1) := ⟨h0.h, h1.h⟩
instance rng_chapmanref05_Coded : Rng chapmanref05_Coded := ⟨fun x => Rng.rng x.L ∧ Rng.rng x.E⟩
instance fe_chapmanref05_Coded_L : FldE chapmanref05_Coded 0 (Sl Int) (fun x => x.L) := ⟨fun _ => rfl⟩
instance fe_chapmanref05_Coded_E : FldE chapmanref05_Coded 1 Int (fun x => x.E) := ⟨fun _ => rfl⟩
instance ze_chapmanref05_Coded : ZeroE chapmanref05_Coded [(.slice none 0 0), (.int .i64 0)] ⟨slNil, 0⟩ := ⟨rfl⟩
instance dw_chapmanref05_Coded {w0 : World} {O : List Nat} {m : List As} {c0 c1 : Value} {a0 : (Sl Int)} {a1 : Int} [h0 : DecW w0 O m (Sl Int) c0 a0] [h1 : DecW w0 O m Int c1 a1] : DecW w0 O m chapmanref05_Coded (.agg #[c0, c1]) ⟨a0, a1⟩ := ⟨by
  have e0 := h0.eq
  have e1 := h1.eq
  simp only [Elt.val, Value.agg.injEq, Array.mk.injEq, List.cons.injEq, and_true] at e0 e1
  simp only [Elt.val, Value.agg.injEq, Array.mk.injEq, List.cons.injEq, and_true]
  simp_all⟩
instance la_chapmanref05_Coded : Lay Try.prog 35 chapmanref05_Coded := Lay.aggr (by decide)
structure chapmanref05_Listed where
  L : (Sl ByteArray)
  E : Int
instance elt_chapmanref05_Listed : Elt chapmanref05_Listed where
  sz := 2
  enc x := [x.L.v, I x.E]
  val x := .agg #[x.L.v, I x.E]
  cells _ := rfl
  len _ := rfl
  one x c h := by
    simp only [List.mem_cons, List.not_mem_nil, or_false] at h
    rcases h with rfl | rfl <;> first | rfl | exact Sl.one _
  pos := by decide
instance agg_chapmanref05_Listed : Aggr chapmanref05_Listed := ⟨fun _ => rfl⟩
instance val_chapmanref05_Listed (x : chapmanref05_Listed) : ValR x (.agg #[x.L.v, I x.E]) := ⟨rfl⟩
instance dp_chapmanref05_Listed : Dp chapmanref05_Listed := ⟨fun w O x => Dp.tru w O x.L ∧ Dp.tru w O x.E, fun hst hO h => ⟨Dp.lift hst hO h.1, Dp.lift hst hO h.2⟩⟩
instance tru_chapmanref05_Listed_L {w0 : World} {O : List Nat} {x : chapmanref05_Listed} [h : Tru w0 O x] : Tru w0 O x.L := ⟨h.h.1⟩
instance tru_chapmanref05_Listed_mk {w0 : World} {O : List Nat} {a0 : (Sl ByteArray)} {a1 : Int} [h0 : Tru w0 O a0] [h1 : Tru w0 O a1] : Tru w0 O (chapmanref05_Listed.mk a0 a1) := ⟨h0.h, h1.h⟩
instance rng_chapmanref05_Listed : Rng chapmanref05_Listed := ⟨fun x => Rng.rng x.L ∧ Rng.rng x.E⟩
instance fe_chapmanref05_Listed_L : FldE chapmanref05_Listed 0 (Sl ByteArray) (fun x => x.L) := ⟨fun _ => rfl⟩
instance fe_chapmanref05_Listed_E : FldE chapmanref05_Listed 1 Int (fun x => x.E) := ⟨fun _ => rfl⟩
instance ze_chapmanref05_Listed : ZeroE chapmanref05_Listed [(.slice none 0 0), (.int .i64 0)] ⟨slNil, 0⟩ := ⟨rfl⟩
instance dw_chapmanref05_Listed {w0 : World} {O : List Nat} {m : List As} {c0 c1 : Value} {a0 : (Sl ByteArray)} {a1 : Int} [h0 : DecW w0 O m (Sl ByteArray) c0 a0] [h1 : DecW w0 O m Int c1 a1] : DecW w0 O m chapmanref05_Listed (.agg #[c0, c1]) ⟨a0, a1⟩ := ⟨by
  have e0 := h0.eq
  have e1 := h1.eq
  simp only [Elt.val, Value.agg.injEq, Array.mk.injEq, List.cons.injEq, and_true] at e0 e1
  simp only [Elt.val, Value.agg.injEq, Array.mk.injEq, List.cons.injEq, and_true]
  simp_all⟩
instance la_chapmanref05_Listed : Lay Try.prog 38 chapmanref05_Listed := Lay.aggr (by decide)
structure chapmanref05_Bytes where
  B : (Sl (BitVec 8))
  E : Int
instance elt_chapmanref05_Bytes : Elt chapmanref05_Bytes where
  sz := 2
  enc x := [x.B.v, I x.E]
  val x := .agg #[x.B.v, I x.E]
  cells _ := rfl
  len _ := rfl
  one x c h := by
    simp only [List.mem_cons, List.not_mem_nil, or_false] at h
    rcases h with rfl | rfl <;> first | rfl | exact Sl.one _
  pos := by decide
instance agg_chapmanref05_Bytes : Aggr chapmanref05_Bytes := ⟨fun _ => rfl⟩
instance val_chapmanref05_Bytes (x : chapmanref05_Bytes) : ValR x (.agg #[x.B.v, I x.E]) := ⟨rfl⟩
instance dp_chapmanref05_Bytes : Dp chapmanref05_Bytes := ⟨fun w O x => Dp.tru w O x.B ∧ Dp.tru w O x.E, fun hst hO h => ⟨Dp.lift hst hO h.1, Dp.lift hst hO h.2⟩⟩
instance tru_chapmanref05_Bytes_B {w0 : World} {O : List Nat} {x : chapmanref05_Bytes} [h : Tru w0 O x] : Tru w0 O x.B := ⟨h.h.1⟩
instance tru_chapmanref05_Bytes_mk {w0 : World} {O : List Nat} {a0 : (Sl (BitVec 8))} {a1 : Int} [h0 : Tru w0 O a0] [h1 : Tru w0 O a1] : Tru w0 O (chapmanref05_Bytes.mk a0 a1) := ⟨h0.h, h1.h⟩
instance rng_chapmanref05_Bytes : Rng chapmanref05_Bytes := ⟨fun x => Rng.rng x.B ∧ Rng.rng x.E⟩
instance fe_chapmanref05_Bytes_B : FldE chapmanref05_Bytes 0 (Sl (BitVec 8)) (fun x => x.B) := ⟨fun _ => rfl⟩
instance fe_chapmanref05_Bytes_E : FldE chapmanref05_Bytes 1 Int (fun x => x.E) := ⟨fun _ => rfl⟩
instance ze_chapmanref05_Bytes : ZeroE chapmanref05_Bytes [(.slice none 0 0), (.int .i64 0)] ⟨slNil, 0⟩ := ⟨rfl⟩
instance dw_chapmanref05_Bytes {w0 : World} {O : List Nat} {m : List As} {c0 c1 : Value} {a0 : (Sl (BitVec 8))} {a1 : Int} [h0 : DecW w0 O m (Sl (BitVec 8)) c0 a0] [h1 : DecW w0 O m Int c1 a1] : DecW w0 O m chapmanref05_Bytes (.agg #[c0, c1]) ⟨a0, a1⟩ := ⟨by
  have e0 := h0.eq
  have e1 := h1.eq
  simp only [Elt.val, Value.agg.injEq, Array.mk.injEq, List.cons.injEq, and_true] at e0 e1
  simp only [Elt.val, Value.agg.injEq, Array.mk.injEq, List.cons.injEq, and_true]
  simp_all⟩
instance la_chapmanref05_Bytes : Lay Try.prog 41 chapmanref05_Bytes := Lay.aggr (by decide)
structure chapmanref05_Got where
  D : (Sl ByteArray)
  Rest : (Sl (BitVec 8))
  E : Int
instance elt_chapmanref05_Got : Elt chapmanref05_Got where
  sz := 3
  enc x := [x.D.v, x.Rest.v, I x.E]
  val x := .agg #[x.D.v, x.Rest.v, I x.E]
  cells _ := rfl
  len _ := rfl
  one x c h := by
    simp only [List.mem_cons, List.not_mem_nil, or_false] at h
    rcases h with rfl | rfl | rfl <;> first | rfl | exact Sl.one _
  pos := by decide
instance agg_chapmanref05_Got : Aggr chapmanref05_Got := ⟨fun _ => rfl⟩
instance val_chapmanref05_Got (x : chapmanref05_Got) : ValR x (.agg #[x.D.v, x.Rest.v, I x.E]) := ⟨rfl⟩
instance dp_chapmanref05_Got : Dp chapmanref05_Got := ⟨fun w O x => Dp.tru w O x.D ∧ Dp.tru w O x.Rest ∧ Dp.tru w O x.E, fun hst hO h => ⟨Dp.lift hst hO h.1, Dp.lift hst hO h.2.1, Dp.lift hst hO h.2.2⟩⟩
instance tru_chapmanref05_Got_D {w0 : World} {O : List Nat} {x : chapmanref05_Got} [h : Tru w0 O x] : Tru w0 O x.D := ⟨h.h.1⟩
instance tru_chapmanref05_Got_Rest {w0 : World} {O : List Nat} {x : chapmanref05_Got} [h : Tru w0 O x] : Tru w0 O x.Rest := ⟨h.h.2.1⟩
instance tru_chapmanref05_Got_mk {w0 : World} {O : List Nat} {a0 : (Sl ByteArray)} {a1 : (Sl (BitVec 8))} {a2 : Int} [h0 : Tru w0 O a0] [h1 : Tru w0 O a1] [h2 : Tru w0 O a2] : Tru w0 O (chapmanref05_Got.mk a0 a1 a2) := ⟨h0.h, h1.h, h2.h⟩
instance rng_chapmanref05_Got : Rng chapmanref05_Got := ⟨fun x => Rng.rng x.D ∧ Rng.rng x.Rest ∧ Rng.rng x.E⟩
instance fe_chapmanref05_Got_D : FldE chapmanref05_Got 0 (Sl ByteArray) (fun x => x.D) := ⟨fun _ => rfl⟩
instance fe_chapmanref05_Got_Rest : FldE chapmanref05_Got 1 (Sl (BitVec 8)) (fun x => x.Rest) := ⟨fun _ => rfl⟩
instance fe_chapmanref05_Got_E : FldE chapmanref05_Got 2 Int (fun x => x.E) := ⟨fun _ => rfl⟩
instance ze_chapmanref05_Got : ZeroE chapmanref05_Got [(.slice none 0 0), (.slice none 0 0), (.int .i64 0)] ⟨slNil, slNil, 0⟩ := ⟨rfl⟩
instance dw_chapmanref05_Got {w0 : World} {O : List Nat} {m : List As} {c0 c1 c2 : Value} {a0 : (Sl ByteArray)} {a1 : (Sl (BitVec 8))} {a2 : Int} [h0 : DecW w0 O m (Sl ByteArray) c0 a0] [h1 : DecW w0 O m (Sl (BitVec 8)) c1 a1] [h2 : DecW w0 O m Int c2 a2] : DecW w0 O m chapmanref05_Got (.agg #[c0, c1, c2]) ⟨a0, a1, a2⟩ := ⟨by
  have e0 := h0.eq
  have e1 := h1.eq
  have e2 := h2.eq
  simp only [Elt.val, Value.agg.injEq, Array.mk.injEq, List.cons.injEq, and_true] at e0 e1 e2
  simp only [Elt.val, Value.agg.injEq, Array.mk.injEq, List.cons.injEq, and_true]
  simp_all⟩
instance la_chapmanref05_Got : Lay Try.prog 48 chapmanref05_Got := Lay.aggr (by decide)
structure chapmanref03_Got where
  U : (BitVec 64)
  L : (Sl Int)
  Rest : (Sl (BitVec 8))
  E : Int
instance elt_chapmanref03_Got : Elt chapmanref03_Got where
  sz := 4
  enc x := [U x.U, x.L.v, x.Rest.v, I x.E]
  val x := .agg #[U x.U, x.L.v, x.Rest.v, I x.E]
  cells _ := rfl
  len _ := rfl
  one x c h := by
    simp only [List.mem_cons, List.not_mem_nil, or_false] at h
    rcases h with rfl | rfl | rfl | rfl <;> first | rfl | exact Sl.one _
  pos := by decide
instance agg_chapmanref03_Got : Aggr chapmanref03_Got := ⟨fun _ => rfl⟩
instance val_chapmanref03_Got (x : chapmanref03_Got) : ValR x (.agg #[U x.U, x.L.v, x.Rest.v, I x.E]) := ⟨rfl⟩
instance dp_chapmanref03_Got : Dp chapmanref03_Got := ⟨fun w O x => Dp.tru w O x.U ∧ Dp.tru w O x.L ∧ Dp.tru w O x.Rest ∧ Dp.tru w O x.E, fun hst hO h => ⟨Dp.lift hst hO h.1, Dp.lift hst hO h.2.1, Dp.lift hst hO h.2.2.1, Dp.lift hst hO h.2.2.2⟩⟩
instance tru_chapmanref03_Got_L {w0 : World} {O : List Nat} {x : chapmanref03_Got} [h : Tru w0 O x] : Tru w0 O x.L := ⟨h.h.2.1⟩
instance tru_chapmanref03_Got_Rest {w0 : World} {O : List Nat} {x : chapmanref03_Got} [h : Tru w0 O x] : Tru w0 O x.Rest := ⟨h.h.2.2.1⟩
instance tru_chapmanref03_Got_mk {w0 : World} {O : List Nat} {a0 : (BitVec 64)} {a1 : (Sl Int)} {a2 : (Sl (BitVec 8))} {a3 : Int} [h0 : Tru w0 O a0] [h1 : Tru w0 O a1] [h2 : Tru w0 O a2] [h3 : Tru w0 O a3] : Tru w0 O (chapmanref03_Got.mk a0 a1 a2 a3) := ⟨h0.h, h1.h, h2.h, h3.h⟩
instance rng_chapmanref03_Got : Rng chapmanref03_Got := ⟨fun x => Rng.rng x.U ∧ Rng.rng x.L ∧ Rng.rng x.Rest ∧ Rng.rng x.E⟩
instance fe_chapmanref03_Got_U : FldE chapmanref03_Got 0 (BitVec 64) (fun x => x.U) := ⟨fun _ => rfl⟩
instance fe_chapmanref03_Got_L : FldE chapmanref03_Got 1 (Sl Int) (fun x => x.L) := ⟨fun _ => rfl⟩
instance fe_chapmanref03_Got_Rest : FldE chapmanref03_Got 2 (Sl (BitVec 8)) (fun x => x.Rest) := ⟨fun _ => rfl⟩
instance fe_chapmanref03_Got_E : FldE chapmanref03_Got 3 Int (fun x => x.E) := ⟨fun _ => rfl⟩
instance ze_chapmanref03_Got : ZeroE chapmanref03_Got [(.int .u64 0), (.slice none 0 0), (.slice none 0 0), (.int .i64 0)] ⟨0, slNil, slNil, 0⟩ := ⟨rfl⟩
instance dw_chapmanref03_Got {w0 : World} {O : List Nat} {m : List As} {c0 c1 c2 c3 : Value} {a0 : (BitVec 64)} {a1 : (Sl Int)} {a2 : (Sl (BitVec 8))} {a3 : Int} [h0 : DecW w0 O m (BitVec 64) c0 a0] [h1 : DecW w0 O m (Sl Int) c1 a1] [h2 : DecW w0 O m (Sl (BitVec 8)) c2 a2] [h3 : DecW w0 O m Int c3 a3] : DecW w0 O m chapmanref03_Got (.agg #[c0, c1, c2, c3]) ⟨a0, a1, a2, a3⟩ := ⟨by
  have e0 := h0.eq
  have e1 := h1.eq
  have e2 := h2.eq
  have e3 := h3.eq
  simp only [Elt.val, Value.agg.injEq, Array.mk.injEq, List.cons.injEq, and_true] at e0 e1 e2 e3
  simp only [Elt.val, Value.agg.injEq, Array.mk.injEq, List.cons.injEq, and_true]
  simp_all⟩
instance la_chapmanref03_Got : Lay Try.prog 68 chapmanref03_Got := Lay.aggr (by decide)
structure dictionary_reader where
  b : (Sl (BitVec 8))
  e : Int
instance elt_dictionary_reader : Elt dictionary_reader where
  sz := 2
  enc x := [x.b.v, I x.e]
  val x := .agg #[x.b.v, I x.e]
  cells _ := rfl
  len _ := rfl
  one x c h := by
    simp only [List.mem_cons, List.not_mem_nil, or_false] at h
    rcases h with rfl | rfl <;> first | rfl | exact Sl.one _
  pos := by decide
instance agg_dictionary_reader : Aggr dictionary_reader := ⟨fun _ => rfl⟩
instance val_dictionary_reader (x : dictionary_reader) : ValR x (.agg #[x.b.v, I x.e]) := ⟨rfl⟩
instance dp_dictionary_reader : Dp dictionary_reader := ⟨fun w O x => Dp.tru w O x.b ∧ Dp.tru w O x.e, fun hst hO h => ⟨Dp.lift hst hO h.1, Dp.lift hst hO h.2⟩⟩
instance tru_dictionary_reader_b {w0 : World} {O : List Nat} {x : dictionary_reader} [h : Tru w0 O x] : Tru w0 O x.b := ⟨h.h.1⟩
instance tru_dictionary_reader_mk {w0 : World} {O : List Nat} {a0 : (Sl (BitVec 8))} {a1 : Int} [h0 : Tru w0 O a0] [h1 : Tru w0 O a1] : Tru w0 O (dictionary_reader.mk a0 a1) := ⟨h0.h, h1.h⟩
instance rng_dictionary_reader : Rng dictionary_reader := ⟨fun x => Rng.rng x.b ∧ Rng.rng x.e⟩
instance fe_dictionary_reader_b : FldE dictionary_reader 0 (Sl (BitVec 8)) (fun x => x.b) := ⟨fun _ => rfl⟩
instance fe_dictionary_reader_e : FldE dictionary_reader 1 Int (fun x => x.e) := ⟨fun _ => rfl⟩
instance ze_dictionary_reader : ZeroE dictionary_reader [(.slice none 0 0), (.int .i64 0)] ⟨slNil, 0⟩ := ⟨rfl⟩
instance dw_dictionary_reader {w0 : World} {O : List Nat} {m : List As} {c0 c1 : Value} {a0 : (Sl (BitVec 8))} {a1 : Int} [h0 : DecW w0 O m (Sl (BitVec 8)) c0 a0] [h1 : DecW w0 O m Int c1 a1] : DecW w0 O m dictionary_reader (.agg #[c0, c1]) ⟨a0, a1⟩ := ⟨by
  have e0 := h0.eq
  have e1 := h1.eq
  simp only [Elt.val, Value.agg.injEq, Array.mk.injEq, List.cons.injEq, and_true] at e0 e1
  simp only [Elt.val, Value.agg.injEq, Array.mk.injEq, List.cons.injEq, and_true]
  simp_all⟩
instance la_dictionary_reader : Lay Try.prog 79 dictionary_reader := Lay.aggr (by decide)
instance Cn_2 : CellsN Try.prog 2 1 := ⟨by kernel_rfl⟩
instance Cn_3 : CellsN Try.prog 3 1 := ⟨by kernel_rfl⟩
instance Cn_4 : CellsN Try.prog 4 1 := ⟨by kernel_rfl⟩
instance Cn_5 : CellsN Try.prog 5 1 := ⟨by kernel_rfl⟩
instance Cn_9 : CellsN Try.prog 9 1 := ⟨by kernel_rfl⟩
instance Cn_12 : CellsN Try.prog 12 1 := ⟨by kernel_rfl⟩
instance Cn_22 : CellsN Try.prog 22 1 := ⟨by kernel_rfl⟩
instance Cn_23 : CellsN Try.prog 23 1 := ⟨by kernel_rfl⟩
instance Cn_24 : CellsN Try.prog 24 1 := ⟨by kernel_rfl⟩
instance Cn_25 : CellsN Try.prog 25 3 := ⟨by kernel_rfl⟩
instance La_25 : Lay Try.prog 25 (Ar 3 (BitVec 8)) := Lay.aggr (by decide)
instance Cn_32 : CellsN Try.prog 32 1 := ⟨by kernel_rfl⟩
instance Cn_33 : CellsN Try.prog 33 1 := ⟨by kernel_rfl⟩
instance Cn_35 : CellsN Try.prog 35 2 := ⟨by kernel_rfl⟩
instance Cn_38 : CellsN Try.prog 38 2 := ⟨by kernel_rfl⟩
instance Cn_41 : CellsN Try.prog 41 2 := ⟨by kernel_rfl⟩
instance Cn_48 : CellsN Try.prog 48 3 := ⟨by kernel_rfl⟩
instance La_53 : Lay Try.prog 53 (BitVec 16) := Lay.scal
instance Cn_53 : CellsN Try.prog 53 1 := ⟨by kernel_rfl⟩
instance Cn_62 : CellsN Try.prog 62 1 := ⟨by kernel_rfl⟩
instance Cn_68 : CellsN Try.prog 68 4 := ⟨by kernel_rfl⟩
instance Cn_76 : CellsN Try.prog 76 1 := ⟨by kernel_rfl⟩
instance Cn_79 : CellsN Try.prog 79 2 := ⟨by kernel_rfl⟩
instance Cn_86 : CellsN Try.prog 86 1 := ⟨by kernel_rfl⟩
instance La_94 : Lay Try.prog 94 (BitVec 32) := Lay.scal
instance Cn_94 : CellsN Try.prog 94 1 := ⟨by kernel_rfl⟩
instance Cn_99 : CellsN Try.prog 99 1 := ⟨by kernel_rfl⟩
instance op_chapmanref05_Coded : Opn Try.prog 35 chapmanref05_Coded where
  cells := by kernel_rfl
  opn {H enc W fuel cs x} h := by
    obtain ⟨xs, m, rfl, rfl, hl, hxl, hf⟩ := DataW.trod_struct Try.underlying35 h
    have hx : xs.length = 2 := hxl
    have hl : cs.length = 2 := hl.trans (by kernel_rfl)
    obtain ⟨a0, e0, r0, t0⟩ := opn_field (α := (Sl Int)) (i := 0) (off := 0) (ft := 24) (n := 1) hf rfl (by omega) rfl
    have s0 := cells_step e0
    obtain ⟨a1, e1, r1, t1⟩ := opn_field (α := Int) (i := 1) (off := 1) (ft := 33) (n := 1) hf rfl (by omega) rfl
    have s1 := cells_step e1
    refine ⟨⟨a0, a1⟩, ?_, ⟨r0, r1⟩, ⟨t0, t1⟩⟩
    have se : cs.drop 2 = [] := List.drop_eq_nil_of_le (by omega)
    simp only [Nat.reduceAdd, List.drop_zero] at s0 s1
    rw [s0, s1, se]; rfl
  val h := val_aggr ⟨_, Try.underlying35, trivial⟩ h
instance op_chapmanref05_Listed : Opn Try.prog 38 chapmanref05_Listed where
  cells := by kernel_rfl
  opn {H enc W fuel cs x} h := by
    obtain ⟨xs, m, rfl, rfl, hl, hxl, hf⟩ := DataW.trod_struct Try.underlying38 h
    have hx : xs.length = 2 := hxl
    have hl : cs.length = 2 := hl.trans (by kernel_rfl)
    obtain ⟨a0, e0, r0, t0⟩ := opn_field (α := (Sl ByteArray)) (i := 0) (off := 0) (ft := 23) (n := 1) hf rfl (by omega) rfl
    have s0 := cells_step e0
    obtain ⟨a1, e1, r1, t1⟩ := opn_field (α := Int) (i := 1) (off := 1) (ft := 33) (n := 1) hf rfl (by omega) rfl
    have s1 := cells_step e1
    refine ⟨⟨a0, a1⟩, ?_, ⟨r0, r1⟩, ⟨t0, t1⟩⟩
    have se : cs.drop 2 = [] := List.drop_eq_nil_of_le (by omega)
    simp only [Nat.reduceAdd, List.drop_zero] at s0 s1
    rw [s0, s1, se]; rfl
  val h := val_aggr ⟨_, Try.underlying38, trivial⟩ h
instance op_chapmanref05_Bytes : Opn Try.prog 41 chapmanref05_Bytes where
  cells := by kernel_rfl
  opn {H enc W fuel cs x} h := by
    obtain ⟨xs, m, rfl, rfl, hl, hxl, hf⟩ := DataW.trod_struct Try.underlying41 h
    have hx : xs.length = 2 := hxl
    have hl : cs.length = 2 := hl.trans (by kernel_rfl)
    obtain ⟨a0, e0, r0, t0⟩ := opn_field (α := (Sl (BitVec 8))) (i := 0) (off := 0) (ft := 22) (n := 1) hf rfl (by omega) rfl
    have s0 := cells_step e0
    obtain ⟨a1, e1, r1, t1⟩ := opn_field (α := Int) (i := 1) (off := 1) (ft := 33) (n := 1) hf rfl (by omega) rfl
    have s1 := cells_step e1
    refine ⟨⟨a0, a1⟩, ?_, ⟨r0, r1⟩, ⟨t0, t1⟩⟩
    have se : cs.drop 2 = [] := List.drop_eq_nil_of_le (by omega)
    simp only [Nat.reduceAdd, List.drop_zero] at s0 s1
    rw [s0, s1, se]; rfl
  val h := val_aggr ⟨_, Try.underlying41, trivial⟩ h
instance op_chapmanref05_Got : Opn Try.prog 48 chapmanref05_Got where
  cells := by kernel_rfl
  opn {H enc W fuel cs x} h := by
    obtain ⟨xs, m, rfl, rfl, hl, hxl, hf⟩ := DataW.trod_struct Try.underlying48 h
    have hx : xs.length = 3 := hxl
    have hl : cs.length = 3 := hl.trans (by kernel_rfl)
    obtain ⟨a0, e0, r0, t0⟩ := opn_field (α := (Sl ByteArray)) (i := 0) (off := 0) (ft := 23) (n := 1) hf rfl (by omega) rfl
    have s0 := cells_step e0
    obtain ⟨a1, e1, r1, t1⟩ := opn_field (α := (Sl (BitVec 8))) (i := 1) (off := 1) (ft := 22) (n := 1) hf rfl (by omega) rfl
    have s1 := cells_step e1
    obtain ⟨a2, e2, r2, t2⟩ := opn_field (α := Int) (i := 2) (off := 2) (ft := 33) (n := 1) hf rfl (by omega) rfl
    have s2 := cells_step e2
    refine ⟨⟨a0, a1, a2⟩, ?_, ⟨r0, r1, r2⟩, ⟨t0, t1, t2⟩⟩
    have se : cs.drop 3 = [] := List.drop_eq_nil_of_le (by omega)
    simp only [Nat.reduceAdd, List.drop_zero] at s0 s1 s2
    rw [s0, s1, s2, se]; rfl
  val h := val_aggr ⟨_, Try.underlying48, trivial⟩ h
instance op_chapmanref03_Got : Opn Try.prog 68 chapmanref03_Got where
  cells := by kernel_rfl
  opn {H enc W fuel cs x} h := by
    obtain ⟨xs, m, rfl, rfl, hl, hxl, hf⟩ := DataW.trod_struct Try.underlying68 h
    have hx : xs.length = 4 := hxl
    have hl : cs.length = 4 := hl.trans (by kernel_rfl)
    obtain ⟨a0, e0, r0, t0⟩ := opn_field (α := (BitVec 64)) (i := 0) (off := 0) (ft := 62) (n := 1) hf rfl (by omega) rfl
    have s0 := cells_step e0
    obtain ⟨a1, e1, r1, t1⟩ := opn_field (α := (Sl Int)) (i := 1) (off := 1) (ft := 24) (n := 1) hf rfl (by omega) rfl
    have s1 := cells_step e1
    obtain ⟨a2, e2, r2, t2⟩ := opn_field (α := (Sl (BitVec 8))) (i := 2) (off := 2) (ft := 22) (n := 1) hf rfl (by omega) rfl
    have s2 := cells_step e2
    obtain ⟨a3, e3, r3, t3⟩ := opn_field (α := Int) (i := 3) (off := 3) (ft := 33) (n := 1) hf rfl (by omega) rfl
    have s3 := cells_step e3
    refine ⟨⟨a0, a1, a2, a3⟩, ?_, ⟨r0, r1, r2, r3⟩, ⟨t0, t1, t2, t3⟩⟩
    have se : cs.drop 4 = [] := List.drop_eq_nil_of_le (by omega)
    simp only [Nat.reduceAdd, List.drop_zero] at s0 s1 s2 s3
    rw [s0, s1, s2, s3, se]; rfl
  val h := val_aggr ⟨_, Try.underlying68, trivial⟩ h
instance op_dictionary_reader : Opn Try.prog 79 dictionary_reader where
  cells := by kernel_rfl
  opn {H enc W fuel cs x} h := by
    obtain ⟨xs, m, rfl, rfl, hl, hxl, hf⟩ := DataW.trod_struct Try.underlying79 h
    have hx : xs.length = 2 := hxl
    have hl : cs.length = 2 := hl.trans (by kernel_rfl)
    obtain ⟨a0, e0, r0, t0⟩ := opn_field (α := (Sl (BitVec 8))) (i := 0) (off := 0) (ft := 22) (n := 1) hf rfl (by omega) rfl
    have s0 := cells_step e0
    obtain ⟨a1, e1, r1, t1⟩ := opn_field (α := Int) (i := 1) (off := 1) (ft := 33) (n := 1) hf rfl (by omega) rfl
    have s1 := cells_step e1
    refine ⟨⟨a0, a1⟩, ?_, ⟨r0, r1⟩, ⟨t0, t1⟩⟩
    have se : cs.drop 2 = [] := List.drop_eq_nil_of_le (by omega)
    simp only [Nat.reduceAdd, List.drop_zero] at s0 s1
    rw [s0, s1, se]; rfl
  val h := val_aggr ⟨_, Try.underlying79, trivial⟩ h
instance Fa_25 : Fct (3 = 3 * Elt.sz (BitVec 8)) := ⟨by decide⟩
end Go.Proofs.Ytnncjfphdcfimaa
