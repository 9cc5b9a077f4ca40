/- Go's structs as Lean structures, by program. -/
import Derived.Test.YtdngfkmigpnbnaaFacts
import Derived.Test.YtdngfkmigpnbnaaK3
set_option linter.unusedVariables false
set_option linter.unusedSimpArgs false
set_option maxRecDepth 100000
namespace Go.Proofs.Ytdngfkmigpnbnaa
open Go.RowKit
structure api_File where
  Kind : Int
  Id : (Sl Int)
  Data : (Sl (BitVec 8))
instance elt_api_File : Elt api_File where
  sz := 3
  enc x := [I x.Kind, x.Id.v, x.Data.v]
  val x := .agg #[I x.Kind, x.Id.v, x.Data.v]
  cells _ := rfl
  len _ := rfl
  one x c h := by
    simp only [List.mem_cons, List.not_mem_nil, or_false] at h
    rcases h with rfl | rfl | rfl <;> first | rfl | exact Sl.one _
  pos := by decide
instance agg_api_File : Aggr api_File := ⟨fun _ => rfl⟩
instance val_api_File (x : api_File) : ValR x (.agg #[I x.Kind, x.Id.v, x.Data.v]) := ⟨rfl⟩
instance dp_api_File : Dp api_File := ⟨fun w O x => Dp.tru w O x.Kind ∧ Dp.tru w O x.Id ∧ Dp.tru w O x.Data, fun hst hO h => ⟨Dp.lift hst hO h.1, Dp.lift hst hO h.2.1, Dp.lift hst hO h.2.2⟩⟩
instance tru_api_File_Id {w0 : World} {O : List Nat} {x : api_File} [h : Tru w0 O x] : Tru w0 O x.Id := ⟨h.h.2.1⟩
instance tru_api_File_Data {w0 : World} {O : List Nat} {x : api_File} [h : Tru w0 O x] : Tru w0 O x.Data := ⟨h.h.2.2⟩
instance tru_api_File_mk {w0 : World} {O : List Nat} {a0 : Int} {a1 : (Sl Int)} {a2 : (Sl (BitVec 8))} [h0 : Tru w0 O a0] [h1 : Tru w0 O a1] [h2 : Tru w0 O a2] : Tru w0 O (api_File.mk a0 a1 a2) := ⟨h0.h, h1.h, h2.h⟩
instance rng_api_File : Rng api_File := ⟨fun x => Rng.rng x.Kind ∧ Rng.rng x.Id ∧ Rng.rng x.Data⟩
instance fe_api_File_Kind : FldE api_File 0 Int (fun x => x.Kind) := ⟨fun _ => rfl⟩
instance fe_api_File_Id : FldE api_File 1 (Sl Int) (fun x => x.Id) := ⟨fun _ => rfl⟩
instance fe_api_File_Data : FldE api_File 2 (Sl (BitVec 8)) (fun x => x.Data) := ⟨fun _ => rfl⟩
instance ze_api_File : ZeroE api_File [(.int .i64 0), (.slice none 0 0), (.slice none 0 0)] ⟨0, slNil, slNil⟩ := ⟨rfl⟩
instance dw_api_File {w0 : World} {O : List Nat} {m : List As} {c0 c1 c2 : Value} {a0 : Int} {a1 : (Sl Int)} {a2 : (Sl (BitVec 8))} [h0 : DecW w0 O m Int c0 a0] [h1 : DecW w0 O m (Sl Int) c1 a1] [h2 : DecW w0 O m (Sl (BitVec 8)) c2 a2] : DecW w0 O m api_File (.agg #[c0, c1, c2]) ⟨a0, a1, a2⟩ := ⟨by
  have e0 := h0.eq
  have e1 := h1.eq
  have e2 := h2.eq
  simp only [Elt.val, Value.agg.injEq, Array.mk.injEq, List.cons.injEq, and_true] at e0 e1 e2
  simp only [Elt.val, Value.agg.injEq, Array.mk.injEq, List.cons.injEq, and_true]
  simp_all⟩
instance la_api_File : Lay Try.prog 25 api_File := Lay.aggr (by decide)
structure chapmanref09_Raw where
  Kind : (BitVec 8)
  Id : (Sl Int)
  Data : (Sl (BitVec 8))
instance elt_chapmanref09_Raw : Elt chapmanref09_Raw where
  sz := 3
  enc x := [B8 x.Kind, x.Id.v, x.Data.v]
  val x := .agg #[B8 x.Kind, x.Id.v, x.Data.v]
  cells _ := rfl
  len _ := rfl
  one x c h := by
    simp only [List.mem_cons, List.not_mem_nil, or_false] at h
    rcases h with rfl | rfl | rfl <;> first | rfl | exact Sl.one _
  pos := by decide
instance agg_chapmanref09_Raw : Aggr chapmanref09_Raw := ⟨fun _ => rfl⟩
instance val_chapmanref09_Raw (x : chapmanref09_Raw) : ValR x (.agg #[B8 x.Kind, x.Id.v, x.Data.v]) := ⟨rfl⟩
instance dp_chapmanref09_Raw : Dp chapmanref09_Raw := ⟨fun w O x => Dp.tru w O x.Kind ∧ Dp.tru w O x.Id ∧ Dp.tru w O x.Data, fun hst hO h => ⟨Dp.lift hst hO h.1, Dp.lift hst hO h.2.1, Dp.lift hst hO h.2.2⟩⟩
instance tru_chapmanref09_Raw_Id {w0 : World} {O : List Nat} {x : chapmanref09_Raw} [h : Tru w0 O x] : Tru w0 O x.Id := ⟨h.h.2.1⟩
instance tru_chapmanref09_Raw_Data {w0 : World} {O : List Nat} {x : chapmanref09_Raw} [h : Tru w0 O x] : Tru w0 O x.Data := ⟨h.h.2.2⟩
instance tru_chapmanref09_Raw_mk {w0 : World} {O : List Nat} {a0 : (BitVec 8)} {a1 : (Sl Int)} {a2 : (Sl (BitVec 8))} [h0 : Tru w0 O a0] [h1 : Tru w0 O a1] [h2 : Tru w0 O a2] : Tru w0 O (chapmanref09_Raw.mk a0 a1 a2) := ⟨h0.h, h1.h, h2.h⟩
instance rng_chapmanref09_Raw : Rng chapmanref09_Raw := ⟨fun x => Rng.rng x.Kind ∧ Rng.rng x.Id ∧ Rng.rng x.Data⟩
instance fe_chapmanref09_Raw_Kind : FldE chapmanref09_Raw 0 (BitVec 8) (fun x => x.Kind) := ⟨fun _ => rfl⟩
instance fe_chapmanref09_Raw_Id : FldE chapmanref09_Raw 1 (Sl Int) (fun x => x.Id) := ⟨fun _ => rfl⟩
instance fe_chapmanref09_Raw_Data : FldE chapmanref09_Raw 2 (Sl (BitVec 8)) (fun x => x.Data) := ⟨fun _ => rfl⟩
instance ze_chapmanref09_Raw : ZeroE chapmanref09_Raw [(.int .u8 0), (.slice none 0 0), (.slice none 0 0)] ⟨0, slNil, slNil⟩ := ⟨rfl⟩
instance dw_chapmanref09_Raw {w0 : World} {O : List Nat} {m : List As} {c0 c1 c2 : Value} {a0 : (BitVec 8)} {a1 : (Sl Int)} {a2 : (Sl (BitVec 8))} [h0 : DecW w0 O m (BitVec 8) c0 a0] [h1 : DecW w0 O m (Sl Int) c1 a1] [h2 : DecW w0 O m (Sl (BitVec 8)) c2 a2] : DecW w0 O m chapmanref09_Raw (.agg #[c0, c1, c2]) ⟨a0, a1, a2⟩ := ⟨by
  have e0 := h0.eq
  have e1 := h1.eq
  have e2 := h2.eq
  simp only [Elt.val, Value.agg.injEq, Array.mk.injEq, List.cons.injEq, and_true] at e0 e1 e2
  simp only [Elt.val, Value.agg.injEq, Array.mk.injEq, List.cons.injEq, and_true]
  simp_all⟩
instance la_chapmanref09_Raw : Lay Try.prog 27 chapmanref09_Raw := Lay.aggr (by decide)
structure chapmanref09_Sealed where
  B : (Sl (BitVec 8))
  E : Int
instance elt_chapmanref09_Sealed : Elt chapmanref09_Sealed where
  sz := 2
  enc x := [x.B.v, I x.E]
  val x := .agg #[x.B.v, I x.E]
  cells _ := rfl
  len _ := rfl
  one x c h := by
    simp only [List.mem_cons, List.not_mem_nil, or_false] at h
    rcases h with rfl | rfl <;> first | rfl | exact Sl.one _
  pos := by decide
instance agg_chapmanref09_Sealed : Aggr chapmanref09_Sealed := ⟨fun _ => rfl⟩
instance val_chapmanref09_Sealed (x : chapmanref09_Sealed) : ValR x (.agg #[x.B.v, I x.E]) := ⟨rfl⟩
instance dp_chapmanref09_Sealed : Dp chapmanref09_Sealed := ⟨fun w O x => Dp.tru w O x.B ∧ Dp.tru w O x.E, fun hst hO h => ⟨Dp.lift hst hO h.1, Dp.lift hst hO h.2⟩⟩
instance tru_chapmanref09_Sealed_B {w0 : World} {O : List Nat} {x : chapmanref09_Sealed} [h : Tru w0 O x] : Tru w0 O x.B := ⟨h.h.1⟩
instance tru_chapmanref09_Sealed_mk {w0 : World} {O : List Nat} {a0 : (Sl (BitVec 8))} {a1 : Int} [h0 : Tru w0 O a0] [h1 : Tru w0 O a1] : Tru w0 O (chapmanref09_Sealed.mk a0 a1) := ⟨h0.h, h1.h⟩
instance rng_chapmanref09_Sealed : Rng chapmanref09_Sealed := ⟨fun x => Rng.rng x.B ∧ Rng.rng x.E⟩
instance fe_chapmanref09_Sealed_B : FldE chapmanref09_Sealed 0 (Sl (BitVec 8)) (fun x => x.B) := ⟨fun _ => rfl⟩
instance fe_chapmanref09_Sealed_E : FldE chapmanref09_Sealed 1 Int (fun x => x.E) := ⟨fun _ => rfl⟩
instance ze_chapmanref09_Sealed : ZeroE chapmanref09_Sealed [(.slice none 0 0), (.int .i64 0)] ⟨slNil, 0⟩ := ⟨rfl⟩
instance dw_chapmanref09_Sealed {w0 : World} {O : List Nat} {m : List As} {c0 c1 : Value} {a0 : (Sl (BitVec 8))} {a1 : Int} [h0 : DecW w0 O m (Sl (BitVec 8)) c0 a0] [h1 : DecW w0 O m Int c1 a1] : DecW w0 O m chapmanref09_Sealed (.agg #[c0, c1]) ⟨a0, a1⟩ := ⟨by
  have e0 := h0.eq
  have e1 := h1.eq
  simp only [Elt.val, Value.agg.injEq, Array.mk.injEq, List.cons.injEq, and_true] at e0 e1
  simp only [Elt.val, Value.agg.injEq, Array.mk.injEq, List.cons.injEq, and_true]
  simp_all⟩
instance la_chapmanref09_Sealed : Lay Try.prog 33 chapmanref09_Sealed := Lay.aggr (by decide)
structure chapmanref09_Parts where
  L : (Sl api_File)
  Rest : (Sl (BitVec 8))
instance elt_chapmanref09_Parts : Elt chapmanref09_Parts where
  sz := 2
  enc x := [x.L.v, x.Rest.v]
  val x := .agg #[x.L.v, x.Rest.v]
  cells _ := rfl
  len _ := rfl
  one x c h := by
    simp only [List.mem_cons, List.not_mem_nil, or_false] at h
    rcases h with rfl | rfl <;> first | rfl | exact Sl.one _
  pos := by decide
instance agg_chapmanref09_Parts : Aggr chapmanref09_Parts := ⟨fun _ => rfl⟩
instance val_chapmanref09_Parts (x : chapmanref09_Parts) : ValR x (.agg #[x.L.v, x.Rest.v]) := ⟨rfl⟩
instance dp_chapmanref09_Parts : Dp chapmanref09_Parts := ⟨fun w O x => Dp.tru w O x.L ∧ Dp.tru w O x.Rest, fun hst hO h => ⟨Dp.lift hst hO h.1, Dp.lift hst hO h.2⟩⟩
instance tru_chapmanref09_Parts_L {w0 : World} {O : List Nat} {x : chapmanref09_Parts} [h : Tru w0 O x] : Tru w0 O x.L := ⟨h.h.1⟩
instance tru_chapmanref09_Parts_Rest {w0 : World} {O : List Nat} {x : chapmanref09_Parts} [h : Tru w0 O x] : Tru w0 O x.Rest := ⟨h.h.2⟩
instance tru_chapmanref09_Parts_mk {w0 : World} {O : List Nat} {a0 : (Sl api_File)} {a1 : (Sl (BitVec 8))} [h0 : Tru w0 O a0] [h1 : Tru w0 O a1] : Tru w0 O (chapmanref09_Parts.mk a0 a1) := ⟨h0.h, h1.h⟩
instance rng_chapmanref09_Parts : Rng chapmanref09_Parts := ⟨fun x => Rng.rng x.L ∧ Rng.rng x.Rest⟩
instance fe_chapmanref09_Parts_L : FldE chapmanref09_Parts 0 (Sl api_File) (fun x => x.L) := ⟨fun _ => rfl⟩
instance fe_chapmanref09_Parts_Rest : FldE chapmanref09_Parts 1 (Sl (BitVec 8)) (fun x => x.Rest) := ⟨fun _ => rfl⟩
instance ze_chapmanref09_Parts : ZeroE chapmanref09_Parts [(.slice none 0 0), (.slice none 0 0)] ⟨slNil, slNil⟩ := ⟨rfl⟩
instance dw_chapmanref09_Parts {w0 : World} {O : List Nat} {m : List As} {c0 c1 : Value} {a0 : (Sl api_File)} {a1 : (Sl (BitVec 8))} [h0 : DecW w0 O m (Sl api_File) c0 a0] [h1 : DecW w0 O m (Sl (BitVec 8)) c1 a1] : DecW w0 O m chapmanref09_Parts (.agg #[c0, c1]) ⟨a0, a1⟩ := ⟨by
  have e0 := h0.eq
  have e1 := h1.eq
  simp only [Elt.val, Value.agg.injEq, Array.mk.injEq, List.cons.injEq, and_true] at e0 e1
  simp only [Elt.val, Value.agg.injEq, Array.mk.injEq, List.cons.injEq, and_true]
  simp_all⟩
instance la_chapmanref09_Parts : Lay Try.prog 38 chapmanref09_Parts := Lay.aggr (by decide)
structure chapmanref09_Opened where
  F : api_File
  Rest : (Sl (BitVec 8))
  E : Int
instance elt_chapmanref09_Opened : Elt chapmanref09_Opened where
  sz := 5
  enc x := [I x.F.Kind, x.F.Id.v, x.F.Data.v, x.Rest.v, I x.E]
  val x := .agg #[I x.F.Kind, x.F.Id.v, x.F.Data.v, x.Rest.v, I x.E]
  cells _ := rfl
  len _ := rfl
  one x c h := by
    simp only [List.mem_cons, List.not_mem_nil, or_false] at h
    rcases h with rfl | rfl | rfl | rfl | rfl <;> first | rfl | exact Sl.one _
  pos := by decide
instance agg_chapmanref09_Opened : Aggr chapmanref09_Opened := ⟨fun _ => rfl⟩
instance val_chapmanref09_Opened (x : chapmanref09_Opened) : ValR x (.agg #[I x.F.Kind, x.F.Id.v, x.F.Data.v, x.Rest.v, I x.E]) := ⟨rfl⟩
instance dp_chapmanref09_Opened : Dp chapmanref09_Opened := ⟨fun w O x => Dp.tru w O x.F ∧ Dp.tru w O x.Rest ∧ Dp.tru w O x.E, fun hst hO h => ⟨Dp.lift hst hO h.1, Dp.lift hst hO h.2.1, Dp.lift hst hO h.2.2⟩⟩
instance tru_chapmanref09_Opened_F {w0 : World} {O : List Nat} {x : chapmanref09_Opened} [h : Tru w0 O x] : Tru w0 O x.F := ⟨h.h.1⟩
instance tru_chapmanref09_Opened_Rest {w0 : World} {O : List Nat} {x : chapmanref09_Opened} [h : Tru w0 O x] : Tru w0 O x.Rest := ⟨h.h.2.1⟩
instance tru_chapmanref09_Opened_mk {w0 : World} {O : List Nat} {a0 : api_File} {a1 : (Sl (BitVec 8))} {a2 : Int} [h0 : Tru w0 O a0] [h1 : Tru w0 O a1] [h2 : Tru w0 O a2] : Tru w0 O (chapmanref09_Opened.mk a0 a1 a2) := ⟨h0.h, h1.h, h2.h⟩
instance rng_chapmanref09_Opened : Rng chapmanref09_Opened := ⟨fun x => Rng.rng x.F ∧ Rng.rng x.Rest ∧ Rng.rng x.E⟩
instance fe_chapmanref09_Opened_F : FldE chapmanref09_Opened 0 api_File (fun x => x.F) := ⟨fun _ => rfl⟩
instance fe_chapmanref09_Opened_Rest : FldE chapmanref09_Opened 3 (Sl (BitVec 8)) (fun x => x.Rest) := ⟨fun _ => rfl⟩
instance fe_chapmanref09_Opened_E : FldE chapmanref09_Opened 4 Int (fun x => x.E) := ⟨fun _ => rfl⟩
instance ze_chapmanref09_Opened : ZeroE chapmanref09_Opened [(.int .i64 0), (.slice none 0 0), (.slice none 0 0), (.slice none 0 0), (.int .i64 0)] ⟨⟨0, slNil, slNil⟩, slNil, 0⟩ := ⟨rfl⟩
instance dw_chapmanref09_Opened {w0 : World} {O : List Nat} {m : List As} {c0 c1 c2 c3 c4 : Value} {a0 : api_File} {a1 : (Sl (BitVec 8))} {a2 : Int} [h0 : DecW w0 O m api_File (.agg #[c0, c1, c2]) a0] [h1 : DecW w0 O m (Sl (BitVec 8)) c3 a1] [h2 : DecW w0 O m Int c4 a2] : DecW w0 O m chapmanref09_Opened (.agg #[c0, c1, c2, c3, c4]) ⟨a0, a1, a2⟩ := ⟨by
  have e0 := h0.eq
  have e1 := h1.eq
  have e2 := h2.eq
  simp only [Elt.val, Value.agg.injEq, Array.mk.injEq, List.cons.injEq, and_true] at e0 e1 e2
  simp only [Elt.val, Value.agg.injEq, Array.mk.injEq, List.cons.injEq, and_true]
  simp_all⟩
instance la_chapmanref09_Opened : Lay Try.prog 42 chapmanref09_Opened := Lay.aggr (by decide)
structure chapmanref03_Packed where
  B : (Sl (BitVec 8))
  E : Int
instance elt_chapmanref03_Packed : Elt chapmanref03_Packed where
  sz := 2
  enc x := [x.B.v, I x.E]
  val x := .agg #[x.B.v, I x.E]
  cells _ := rfl
  len _ := rfl
  one x c h := by
    simp only [List.mem_cons, List.not_mem_nil, or_false] at h
    rcases h with rfl | rfl <;> first | rfl | exact Sl.one _
  pos := by decide
instance agg_chapmanref03_Packed : Aggr chapmanref03_Packed := ⟨fun _ => rfl⟩
instance val_chapmanref03_Packed (x : chapmanref03_Packed) : ValR x (.agg #[x.B.v, I x.E]) := ⟨rfl⟩
instance dp_chapmanref03_Packed : Dp chapmanref03_Packed := ⟨fun w O x => Dp.tru w O x.B ∧ Dp.tru w O x.E, fun hst hO h => ⟨Dp.lift hst hO h.1, Dp.lift hst hO h.2⟩⟩
instance tru_chapmanref03_Packed_B {w0 : World} {O : List Nat} {x : chapmanref03_Packed} [h : Tru w0 O x] : Tru w0 O x.B := ⟨h.h.1⟩
instance tru_chapmanref03_Packed_mk {w0 : World} {O : List Nat} {a0 : (Sl (BitVec 8))} {a1 : Int} [h0 : Tru w0 O a0] [h1 : Tru w0 O a1] : Tru w0 O (chapmanref03_Packed.mk a0 a1) := ⟨h0.h, h1.h⟩
instance rng_chapmanref03_Packed : Rng chapmanref03_Packed := ⟨fun x => Rng.rng x.B ∧ Rng.rng x.E⟩
instance fe_chapmanref03_Packed_B : FldE chapmanref03_Packed 0 (Sl (BitVec 8)) (fun x => x.B) := ⟨fun _ => rfl⟩
instance fe_chapmanref03_Packed_E : FldE chapmanref03_Packed 1 Int (fun x => x.E) := ⟨fun _ => rfl⟩
instance ze_chapmanref03_Packed : ZeroE chapmanref03_Packed [(.slice none 0 0), (.int .i64 0)] ⟨slNil, 0⟩ := ⟨rfl⟩
instance dw_chapmanref03_Packed {w0 : World} {O : List Nat} {m : List As} {c0 c1 : Value} {a0 : (Sl (BitVec 8))} {a1 : Int} [h0 : DecW w0 O m (Sl (BitVec 8)) c0 a0] [h1 : DecW w0 O m Int c1 a1] : DecW w0 O m chapmanref03_Packed (.agg #[c0, c1]) ⟨a0, a1⟩ := ⟨by
  have e0 := h0.eq
  have e1 := h1.eq
  simp only [Elt.val, Value.agg.injEq, Array.mk.injEq, List.cons.injEq, and_true] at e0 e1
  simp only [Elt.val, Value.agg.injEq, Array.mk.injEq, List.cons.injEq, and_true]
  simp_all⟩
instance la_chapmanref03_Packed : Lay Try.prog 69 chapmanref03_Packed := Lay.aggr (by decide)
structure chapmanref03_Got where
  U : (BitVec 64)
  L : (Sl Int)
  Rest : (Sl (BitVec 8))
  E : Int
instance elt_chapmanref03_Got : Elt chapmanref03_Got where
  sz := 4
  enc x := [U x.U, x.L.v, x.Rest.v, I x.E]
  val x := .agg #[U x.U, x.L.v, x.Rest.v, I x.E]
  cells _ := rfl
  len _ := rfl
  one x c h := by
    simp only [List.mem_cons, List.not_mem_nil, or_false] at h
    rcases h with rfl | rfl | rfl | rfl <;> first | rfl | exact Sl.one _
  pos := by decide
instance agg_chapmanref03_Got : Aggr chapmanref03_Got := ⟨fun _ => rfl⟩
instance val_chapmanref03_Got (x : chapmanref03_Got) : ValR x (.agg #[U x.U, x.L.v, x.Rest.v, I x.E]) := ⟨rfl⟩
instance dp_chapmanref03_Got : Dp chapmanref03_Got := ⟨fun w O x => Dp.tru w O x.U ∧ Dp.tru w O x.L ∧ Dp.tru w O x.Rest ∧ Dp.tru w O x.E, fun hst hO h => ⟨Dp.lift hst hO h.1, Dp.lift hst hO h.2.1, Dp.lift hst hO h.2.2.1, Dp.lift hst hO h.2.2.2⟩⟩
instance tru_chapmanref03_Got_L {w0 : World} {O : List Nat} {x : chapmanref03_Got} [h : Tru w0 O x] : Tru w0 O x.L := ⟨h.h.2.1⟩
instance tru_chapmanref03_Got_Rest {w0 : World} {O : List Nat} {x : chapmanref03_Got} [h : Tru w0 O x] : Tru w0 O x.Rest := ⟨h.h.2.2.1⟩
instance tru_chapmanref03_Got_mk {w0 : World} {O : List Nat} {a0 : (BitVec 64)} {a1 : (Sl Int)} {a2 : (Sl (BitVec 8))} {a3 : Int} [h0 : Tru w0 O a0] [h1 : Tru w0 O a1] [h2 : Tru w0 O a2] [h3 : Tru w0 O a3] : Tru w0 O (chapmanref03_Got.mk a0 a1 a2 a3) := ⟨h0.h, h1.h, h2.h, h3.h⟩
instance rng_chapmanref03_Got : Rng chapmanref03_Got := ⟨fun x => Rng.rng x.U ∧ Rng.rng x.L ∧ Rng.rng x.Rest ∧ Rng.rng x.E⟩
instance fe_chapmanref03_Got_U : FldE chapmanref03_Got 0 (BitVec 64) (fun x => x.U) := ⟨fun _ => rfl⟩
instance fe_chapmanref03_Got_L : FldE chapmanref03_Got 1 (Sl Int) (fun x => x.L) := ⟨fun _ => rfl⟩
instance fe_chapmanref03_Got_Rest : FldE chapmanref03_Got 2 (Sl (BitVec 8)) (fun x => x.Rest) := ⟨fun _ => rfl⟩
instance fe_chapmanref03_Got_E : FldE chapmanref03_Got 3 Int (fun x => x.E) := ⟨fun _ => rfl⟩
instance ze_chapmanref03_Got : ZeroE chapmanref03_Got [(.int .u64 0), (.slice none 0 0), (.slice none 0 0), (.int .i64 0)] ⟨0, slNil, slNil, 0⟩ := ⟨rfl⟩
instance dw_chapmanref03_Got {w0 : World} {O : List Nat} {m : List As} {c0 c1 c2 c3 : Value} {a0 : (BitVec 64)} {a1 : (Sl Int)} {a2 : (Sl (BitVec 8))} {a3 : Int} [h0 : DecW w0 O m (BitVec 64) c0 a0] [h1 : DecW w0 O m (Sl Int) c1 a1] [h2 : DecW w0 O m (Sl (BitVec 8)) c2 a2] [h3 : DecW w0 O m Int c3 a3] : DecW w0 O m chapmanref03_Got (.agg #[c0, c1, c2, c3]) ⟨a0, a1, a2, a3⟩ := ⟨by
  have e0 := h0.eq
  have e1 := h1.eq
  have e2 := h2.eq
  have e3 := h3.eq
  simp only [Elt.val, Value.agg.injEq, Array.mk.injEq, List.cons.injEq, and_true] at e0 e1 e2 e3
  simp only [Elt.val, Value.agg.injEq, Array.mk.injEq, List.cons.injEq, and_true]
  simp_all⟩
instance la_chapmanref03_Got : Lay Try.prog 74 chapmanref03_Got := Lay.aggr (by decide)
structure container_reader where
  all : (Sl (BitVec 8))
  rest : (Sl (BitVec 8))
instance elt_container_reader : Elt container_reader where
  sz := 2
  enc x := [x.all.v, x.rest.v]
  val x := .agg #[x.all.v, x.rest.v]
  cells _ := rfl
  len _ := rfl
  one x c h := by
    simp only [List.mem_cons, List.not_mem_nil, or_false] at h
    rcases h with rfl | rfl <;> first | rfl | exact Sl.one _
  pos := by decide
instance agg_container_reader : Aggr container_reader := ⟨fun _ => rfl⟩
instance val_container_reader (x : container_reader) : ValR x (.agg #[x.all.v, x.rest.v]) := ⟨rfl⟩
instance dp_container_reader : Dp container_reader := ⟨fun w O x => Dp.tru w O x.all ∧ Dp.tru w O x.rest, fun hst hO h => ⟨Dp.lift hst hO h.1, Dp.lift hst hO h.2⟩⟩
instance tru_container_reader_all {w0 : World} {O : List Nat} {x : container_reader} [h : Tru w0 O x] : Tru w0 O x.all := ⟨h.h.1⟩
instance tru_container_reader_rest {w0 : World} {O : List Nat} {x : container_reader} [h : Tru w0 O x] : Tru w0 O x.rest := ⟨h.h.2⟩
instance tru_container_reader_mk {w0 : World} {O : List Nat} {a0 : (Sl (BitVec 8))} {a1 : (Sl (BitVec 8))} [h0 : Tru w0 O a0] [h1 : Tru w0 O a1] : Tru w0 O (container_reader.mk a0 a1) := ⟨h0.h, h1.h⟩
instance rng_container_reader : Rng container_reader := ⟨fun x => Rng.rng x.all ∧ Rng.rng x.rest⟩
instance fe_container_reader_all : FldE container_reader 0 (Sl (BitVec 8)) (fun x => x.all) := ⟨fun _ => rfl⟩
instance fe_container_reader_rest : FldE container_reader 1 (Sl (BitVec 8)) (fun x => x.rest) := ⟨fun _ => rfl⟩
instance ze_container_reader : ZeroE container_reader [(.slice none 0 0), (.slice none 0 0)] ⟨slNil, slNil⟩ := ⟨rfl⟩
instance dw_container_reader {w0 : World} {O : List Nat} {m : List As} {c0 c1 : Value} {a0 : (Sl (BitVec 8))} {a1 : (Sl (BitVec 8))} [h0 : DecW w0 O m (Sl (BitVec 8)) c0 a0] [h1 : DecW w0 O m (Sl (BitVec 8)) c1 a1] : DecW w0 O m container_reader (.agg #[c0, c1]) ⟨a0, a1⟩ := ⟨by
  have e0 := h0.eq
  have e1 := h1.eq
  simp only [Elt.val, Value.agg.injEq, Array.mk.injEq, List.cons.injEq, and_true] at e0 e1
  simp only [Elt.val, Value.agg.injEq, Array.mk.injEq, List.cons.injEq, and_true]
  simp_all⟩
instance la_container_reader : Lay Try.prog 82 container_reader := Lay.aggr (by decide)
structure container_trouble where
  e : Int
instance elt_container_trouble : Elt container_trouble where
  sz := 1
  enc x := [I x.e]
  val x := .agg #[I x.e]
  cells _ := rfl
  len _ := rfl
  one x c h := by
    simp only [List.mem_cons, List.not_mem_nil, or_false] at h
    rcases h with rfl <;> first | rfl | exact Sl.one _
  pos := by decide
instance agg_container_trouble : Aggr container_trouble := ⟨fun _ => rfl⟩
instance val_container_trouble (x : container_trouble) : ValR x (.agg #[I x.e]) := ⟨rfl⟩
instance dp_container_trouble : Dp container_trouble := ⟨fun w O x => Dp.tru w O x.e, fun hst hO h => Dp.lift hst hO h⟩
instance : Flat container_trouble := ⟨fun w O x => Flat.h w O x.e⟩
instance rng_container_trouble : Rng container_trouble := ⟨fun x => Rng.rng x.e⟩
instance fe_container_trouble_e : FldE container_trouble 0 Int (fun x => x.e) := ⟨fun _ => rfl⟩
instance ze_container_trouble : ZeroE container_trouble [(.int .i64 0)] ⟨0⟩ := ⟨rfl⟩
instance de_container_trouble {c0 : Value} {a0 : Int} {p0 : Prop} [h0 : DecE Int c0 a0 p0] : DecE container_trouble (.agg #[c0]) ⟨a0⟩ (p0) := ⟨fun s => by
  have e0 := h0.eq s
  simp only [Elt.val, Value.agg.injEq, Array.mk.injEq, List.cons.injEq, and_true] at e0
  simp only [Elt.val, Value.agg.injEq, Array.mk.injEq, List.cons.injEq, and_true]
  simp_all⟩
instance dw_container_trouble {w0 : World} {O : List Nat} {m : List As} {c0 : Value} {a0 : Int} [h0 : DecW w0 O m Int c0 a0] : DecW w0 O m container_trouble (.agg #[c0]) ⟨a0⟩ := ⟨by
  have e0 := h0.eq
  simp only [Elt.val, Value.agg.injEq, Array.mk.injEq, List.cons.injEq, and_true] at e0
  simp only [Elt.val, Value.agg.injEq, Array.mk.injEq, List.cons.injEq, and_true]
  simp_all⟩
instance la_container_trouble : Lay Try.prog 84 container_trouble := Lay.aggr (by decide)
instance Cn_2 : CellsN Try.prog 2 1 := ⟨by kernel_rfl⟩
instance Cn_3 : CellsN Try.prog 3 1 := ⟨by kernel_rfl⟩
instance Cn_4 : CellsN Try.prog 4 1 := ⟨by kernel_rfl⟩
instance Cn_5 : CellsN Try.prog 5 1 := ⟨by kernel_rfl⟩
instance Cn_9 : CellsN Try.prog 9 1 := ⟨by kernel_rfl⟩
instance Cn_12 : CellsN Try.prog 12 1 := ⟨by kernel_rfl⟩
instance Cn_22 : CellsN Try.prog 22 1 := ⟨by kernel_rfl⟩
instance Cn_23 : CellsN Try.prog 23 1 := ⟨by kernel_rfl⟩
instance Cn_25 : CellsN Try.prog 25 3 := ⟨by kernel_rfl⟩
instance Cn_27 : CellsN Try.prog 27 3 := ⟨by kernel_rfl⟩
instance La_30 : Lay Try.prog 30 (Sl api_File) := Lay.scal
instance Cn_30 : CellsN Try.prog 30 1 := ⟨by kernel_rfl⟩
instance Cn_31 : CellsN Try.prog 31 1 := ⟨by kernel_rfl⟩
instance Cn_33 : CellsN Try.prog 33 2 := ⟨by kernel_rfl⟩
instance Cn_38 : CellsN Try.prog 38 2 := ⟨by kernel_rfl⟩
instance Cn_42 : CellsN Try.prog 42 5 := ⟨by kernel_rfl⟩
instance La_47 : Lay Try.prog 47 (BitVec 16) := Lay.scal
instance Cn_47 : CellsN Try.prog 47 1 := ⟨by kernel_rfl⟩
instance La_50 : Lay Try.prog 50 (Sl chapmanref09_Raw) := Lay.scal
instance Cn_50 : CellsN Try.prog 50 1 := ⟨by kernel_rfl⟩
instance Cn_67 : CellsN Try.prog 67 1 := ⟨by kernel_rfl⟩
instance Cn_69 : CellsN Try.prog 69 2 := ⟨by kernel_rfl⟩
instance Cn_74 : CellsN Try.prog 74 4 := ⟨by kernel_rfl⟩
instance Cn_78 : CellsN Try.prog 78 1 := ⟨by kernel_rfl⟩
instance Cn_82 : CellsN Try.prog 82 2 := ⟨by kernel_rfl⟩
instance Cn_84 : CellsN Try.prog 84 1 := ⟨by kernel_rfl⟩
instance Cn_92 : CellsN Try.prog 92 1 := ⟨by kernel_rfl⟩
instance Cn_97 : CellsN Try.prog 97 2 := ⟨by kernel_rfl⟩
instance La_97 : Lay Try.prog 97 (Ar 2 Int) := Lay.aggr (by decide)
instance Cn_107 : CellsN Try.prog 107 1 := ⟨by kernel_rfl⟩
instance La_118 : Lay Try.prog 118 (BitVec 32) := Lay.scal
instance Cn_118 : CellsN Try.prog 118 1 := ⟨by kernel_rfl⟩
instance op_api_File : Opn Try.prog 25 api_File where
  cells := by kernel_rfl
  opn {H enc W fuel cs x} h := by
    obtain ⟨xs, m, rfl, rfl, hl, hxl, hf⟩ := DataW.trod_struct Try.underlying25 h
    have hx : xs.length = 3 := hxl
    have hl : cs.length = 3 := hl.trans (by kernel_rfl)
    obtain ⟨a0, e0, r0, t0⟩ := opn_field (α := Int) (i := 0) (off := 0) (ft := 3) (n := 1) hf rfl (by omega) rfl
    have s0 := cells_step e0
    obtain ⟨a1, e1, r1, t1⟩ := opn_field (α := (Sl Int)) (i := 1) (off := 1) (ft := 22) (n := 1) hf rfl (by omega) rfl
    have s1 := cells_step e1
    obtain ⟨a2, e2, r2, t2⟩ := opn_field (α := (Sl (BitVec 8))) (i := 2) (off := 2) (ft := 23) (n := 1) hf rfl (by omega) rfl
    have s2 := cells_step e2
    refine ⟨⟨a0, a1, a2⟩, ?_, ⟨r0, r1, r2⟩, ⟨t0, t1, t2⟩⟩
    have se : cs.drop 3 = [] := List.drop_eq_nil_of_le (by omega)
    simp only [Nat.reduceAdd, List.drop_zero] at s0 s1 s2
    rw [s0, s1, s2, se]; rfl
  val h := val_aggr ⟨_, Try.underlying25, trivial⟩ h
instance op_chapmanref09_Raw : Opn Try.prog 27 chapmanref09_Raw where
  cells := by kernel_rfl
  opn {H enc W fuel cs x} h := by
    obtain ⟨xs, m, rfl, rfl, hl, hxl, hf⟩ := DataW.trod_struct Try.underlying27 h
    have hx : xs.length = 3 := hxl
    have hl : cs.length = 3 := hl.trans (by kernel_rfl)
    obtain ⟨a0, e0, r0, t0⟩ := opn_field (α := (BitVec 8)) (i := 0) (off := 0) (ft := 5) (n := 1) hf rfl (by omega) rfl
    have s0 := cells_step e0
    obtain ⟨a1, e1, r1, t1⟩ := opn_field (α := (Sl Int)) (i := 1) (off := 1) (ft := 22) (n := 1) hf rfl (by omega) rfl
    have s1 := cells_step e1
    obtain ⟨a2, e2, r2, t2⟩ := opn_field (α := (Sl (BitVec 8))) (i := 2) (off := 2) (ft := 23) (n := 1) hf rfl (by omega) rfl
    have s2 := cells_step e2
    refine ⟨⟨a0, a1, a2⟩, ?_, ⟨r0, r1, r2⟩, ⟨t0, t1, t2⟩⟩
    have se : cs.drop 3 = [] := List.drop_eq_nil_of_le (by omega)
    simp only [Nat.reduceAdd, List.drop_zero] at s0 s1 s2
    rw [s0, s1, s2, se]; rfl
  val h := val_aggr ⟨_, Try.underlying27, trivial⟩ h
instance op_chapmanref09_Sealed : Opn Try.prog 33 chapmanref09_Sealed where
  cells := by kernel_rfl
  opn {H enc W fuel cs x} h := by
    obtain ⟨xs, m, rfl, rfl, hl, hxl, hf⟩ := DataW.trod_struct Try.underlying33 h
    have hx : xs.length = 2 := hxl
    have hl : cs.length = 2 := hl.trans (by kernel_rfl)
    obtain ⟨a0, e0, r0, t0⟩ := opn_field (α := (Sl (BitVec 8))) (i := 0) (off := 0) (ft := 23) (n := 1) hf rfl (by omega) rfl
    have s0 := cells_step e0
    obtain ⟨a1, e1, r1, t1⟩ := opn_field (α := Int) (i := 1) (off := 1) (ft := 31) (n := 1) hf rfl (by omega) rfl
    have s1 := cells_step e1
    refine ⟨⟨a0, a1⟩, ?_, ⟨r0, r1⟩, ⟨t0, t1⟩⟩
    have se : cs.drop 2 = [] := List.drop_eq_nil_of_le (by omega)
    simp only [Nat.reduceAdd, List.drop_zero] at s0 s1
    rw [s0, s1, se]; rfl
  val h := val_aggr ⟨_, Try.underlying33, trivial⟩ h
instance op_chapmanref09_Parts : Opn Try.prog 38 chapmanref09_Parts where
  cells := by kernel_rfl
  opn {H enc W fuel cs x} h := by
    obtain ⟨xs, m, rfl, rfl, hl, hxl, hf⟩ := DataW.trod_struct Try.underlying38 h
    have hx : xs.length = 2 := hxl
    have hl : cs.length = 2 := hl.trans (by kernel_rfl)
    obtain ⟨a0, e0, r0, t0⟩ := opn_field (α := (Sl api_File)) (i := 0) (off := 0) (ft := 30) (n := 1) hf rfl (by omega) rfl
    have s0 := cells_step e0
    obtain ⟨a1, e1, r1, t1⟩ := opn_field (α := (Sl (BitVec 8))) (i := 1) (off := 1) (ft := 23) (n := 1) hf rfl (by omega) rfl
    have s1 := cells_step e1
    refine ⟨⟨a0, a1⟩, ?_, ⟨r0, r1⟩, ⟨t0, t1⟩⟩
    have se : cs.drop 2 = [] := List.drop_eq_nil_of_le (by omega)
    simp only [Nat.reduceAdd, List.drop_zero] at s0 s1
    rw [s0, s1, se]; rfl
  val h := val_aggr ⟨_, Try.underlying38, trivial⟩ h
instance op_chapmanref09_Opened : Opn Try.prog 42 chapmanref09_Opened where
  cells := by kernel_rfl
  opn {H enc W fuel cs x} h := by
    obtain ⟨xs, m, rfl, rfl, hl, hxl, hf⟩ := DataW.trod_struct Try.underlying42 h
    have hx : xs.length = 3 := hxl
    have hl : cs.length = 5 := hl.trans (by kernel_rfl)
    obtain ⟨a0, e0, r0, t0⟩ := opn_field (α := api_File) (i := 0) (off := 0) (ft := 25) (n := 3) hf rfl (by omega) rfl
    have s0 := cells_step e0
    obtain ⟨a1, e1, r1, t1⟩ := opn_field (α := (Sl (BitVec 8))) (i := 1) (off := 3) (ft := 23) (n := 1) hf rfl (by omega) rfl
    have s1 := cells_step e1
    obtain ⟨a2, e2, r2, t2⟩ := opn_field (α := Int) (i := 2) (off := 4) (ft := 31) (n := 1) hf rfl (by omega) rfl
    have s2 := cells_step e2
    refine ⟨⟨a0, a1, a2⟩, ?_, ⟨r0, r1, r2⟩, ⟨t0, t1, t2⟩⟩
    have se : cs.drop 5 = [] := List.drop_eq_nil_of_le (by omega)
    simp only [Nat.reduceAdd, List.drop_zero] at s0 s1 s2
    rw [s0, s1, s2, se]; rfl
  val h := val_aggr ⟨_, Try.underlying42, trivial⟩ h
instance op_chapmanref03_Packed : Opn Try.prog 69 chapmanref03_Packed where
  cells := by kernel_rfl
  opn {H enc W fuel cs x} h := by
    obtain ⟨xs, m, rfl, rfl, hl, hxl, hf⟩ := DataW.trod_struct Try.underlying69 h
    have hx : xs.length = 2 := hxl
    have hl : cs.length = 2 := hl.trans (by kernel_rfl)
    obtain ⟨a0, e0, r0, t0⟩ := opn_field (α := (Sl (BitVec 8))) (i := 0) (off := 0) (ft := 23) (n := 1) hf rfl (by omega) rfl
    have s0 := cells_step e0
    obtain ⟨a1, e1, r1, t1⟩ := opn_field (α := Int) (i := 1) (off := 1) (ft := 31) (n := 1) hf rfl (by omega) rfl
    have s1 := cells_step e1
    refine ⟨⟨a0, a1⟩, ?_, ⟨r0, r1⟩, ⟨t0, t1⟩⟩
    have se : cs.drop 2 = [] := List.drop_eq_nil_of_le (by omega)
    simp only [Nat.reduceAdd, List.drop_zero] at s0 s1
    rw [s0, s1, se]; rfl
  val h := val_aggr ⟨_, Try.underlying69, trivial⟩ h
instance op_chapmanref03_Got : Opn Try.prog 74 chapmanref03_Got where
  cells := by kernel_rfl
  opn {H enc W fuel cs x} h := by
    obtain ⟨xs, m, rfl, rfl, hl, hxl, hf⟩ := DataW.trod_struct Try.underlying74 h
    have hx : xs.length = 4 := hxl
    have hl : cs.length = 4 := hl.trans (by kernel_rfl)
    obtain ⟨a0, e0, r0, t0⟩ := opn_field (α := (BitVec 64)) (i := 0) (off := 0) (ft := 67) (n := 1) hf rfl (by omega) rfl
    have s0 := cells_step e0
    obtain ⟨a1, e1, r1, t1⟩ := opn_field (α := (Sl Int)) (i := 1) (off := 1) (ft := 22) (n := 1) hf rfl (by omega) rfl
    have s1 := cells_step e1
    obtain ⟨a2, e2, r2, t2⟩ := opn_field (α := (Sl (BitVec 8))) (i := 2) (off := 2) (ft := 23) (n := 1) hf rfl (by omega) rfl
    have s2 := cells_step e2
    obtain ⟨a3, e3, r3, t3⟩ := opn_field (α := Int) (i := 3) (off := 3) (ft := 31) (n := 1) hf rfl (by omega) rfl
    have s3 := cells_step e3
    refine ⟨⟨a0, a1, a2, a3⟩, ?_, ⟨r0, r1, r2, r3⟩, ⟨t0, t1, t2, t3⟩⟩
    have se : cs.drop 4 = [] := List.drop_eq_nil_of_le (by omega)
    simp only [Nat.reduceAdd, List.drop_zero] at s0 s1 s2 s3
    rw [s0, s1, s2, s3, se]; rfl
  val h := val_aggr ⟨_, Try.underlying74, trivial⟩ h
instance op_container_reader : Opn Try.prog 82 container_reader where
  cells := by kernel_rfl
  opn {H enc W fuel cs x} h := by
    obtain ⟨xs, m, rfl, rfl, hl, hxl, hf⟩ := DataW.trod_struct Try.underlying82 h
    have hx : xs.length = 2 := hxl
    have hl : cs.length = 2 := hl.trans (by kernel_rfl)
    obtain ⟨a0, e0, r0, t0⟩ := opn_field (α := (Sl (BitVec 8))) (i := 0) (off := 0) (ft := 23) (n := 1) hf rfl (by omega) rfl
    have s0 := cells_step e0
    obtain ⟨a1, e1, r1, t1⟩ := opn_field (α := (Sl (BitVec 8))) (i := 1) (off := 1) (ft := 23) (n := 1) hf rfl (by omega) rfl
    have s1 := cells_step e1
    refine ⟨⟨a0, a1⟩, ?_, ⟨r0, r1⟩, ⟨t0, t1⟩⟩
    have se : cs.drop 2 = [] := List.drop_eq_nil_of_le (by omega)
    simp only [Nat.reduceAdd, List.drop_zero] at s0 s1
    rw [s0, s1, se]; rfl
  val h := val_aggr ⟨_, Try.underlying82, trivial⟩ h
instance op_container_trouble : Opn Try.prog 84 container_trouble where
  cells := by kernel_rfl
  opn {H enc W fuel cs x} h := by
    obtain ⟨xs, m, rfl, rfl, hl, hxl, hf⟩ := DataW.trod_struct Try.underlying84 h
    have hx : xs.length = 1 := hxl
    have hl : cs.length = 1 := hl.trans (by kernel_rfl)
    obtain ⟨a0, e0, r0, t0⟩ := opn_field (α := Int) (i := 0) (off := 0) (ft := 31) (n := 1) hf rfl (by omega) rfl
    have s0 := cells_step e0
    refine ⟨⟨a0⟩, ?_, r0, t0⟩
    have se : cs.drop 1 = [] := List.drop_eq_nil_of_le (by omega)
    simp only [Nat.reduceAdd, List.drop_zero] at s0
    rw [s0, se]; rfl
  val h := val_aggr ⟨_, Try.underlying84, trivial⟩ h
instance Fa_97 : Fct (2 = 2 * Elt.sz Int) := ⟨by decide⟩
end Go.Proofs.Ytdngfkmigpnbnaa
