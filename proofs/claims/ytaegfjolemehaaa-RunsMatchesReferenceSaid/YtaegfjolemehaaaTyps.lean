/- Go's structs as Lean structures, by program. -/
import Derived.Test.YtaegfjolemehaaaFacts
import Derived.Test.YtaegfjolemehaaaK3
set_option linter.unusedVariables false
set_option linter.unusedSimpArgs false
set_option maxRecDepth 100000
namespace Go.Proofs.Ytaegfjolemehaaa
open Go.RowKit
structure chapmanref04_Pair where
  Values : (Sl Int)
  Lengths : (Sl Int)
instance elt_chapmanref04_Pair : Elt chapmanref04_Pair where
  sz := 2
  enc x := [x.Values.v, x.Lengths.v]
  val x := .agg #[x.Values.v, x.Lengths.v]
  cells _ := rfl
  len _ := rfl
  one x c h := by
    simp only [List.mem_cons, List.not_mem_nil, or_false] at h
    rcases h with rfl | rfl <;> first | rfl | exact Sl.one _
  pos := by decide
instance agg_chapmanref04_Pair : Aggr chapmanref04_Pair := ⟨fun _ => rfl⟩
instance val_chapmanref04_Pair (x : chapmanref04_Pair) : ValR x (.agg #[x.Values.v, x.Lengths.v]) := ⟨rfl⟩
instance dp_chapmanref04_Pair : Dp chapmanref04_Pair := ⟨fun w O x => Dp.tru w O x.Values ∧ Dp.tru w O x.Lengths, fun hst hO h => ⟨Dp.lift hst hO h.1, Dp.lift hst hO h.2⟩⟩
instance tru_chapmanref04_Pair_Values {w0 : World} {O : List Nat} {x : chapmanref04_Pair} [h : Tru w0 O x] : Tru w0 O x.Values := ⟨h.h.1⟩
instance tru_chapmanref04_Pair_Lengths {w0 : World} {O : List Nat} {x : chapmanref04_Pair} [h : Tru w0 O x] : Tru w0 O x.Lengths := ⟨h.h.2⟩
instance tru_chapmanref04_Pair_mk {w0 : World} {O : List Nat} {a0 : (Sl Int)} {a1 : (Sl Int)} [h0 : Tru w0 O a0] [h1 : Tru w0 O a1] : Tru w0 O (chapmanref04_Pair.mk a0 a1) := ⟨h0.h, h1.h⟩
instance rng_chapmanref04_Pair : Rng chapmanref04_Pair := ⟨fun x => Rng.rng x.Values ∧ Rng.rng x.Lengths⟩
instance fe_chapmanref04_Pair_Values : FldE chapmanref04_Pair 0 (Sl Int) (fun x => x.Values) := ⟨fun _ => rfl⟩
instance fe_chapmanref04_Pair_Lengths : FldE chapmanref04_Pair 1 (Sl Int) (fun x => x.Lengths) := ⟨fun _ => rfl⟩
instance ze_chapmanref04_Pair : ZeroE chapmanref04_Pair [(.slice none 0 0), (.slice none 0 0)] ⟨slNil, slNil⟩ := ⟨rfl⟩
instance dw_chapmanref04_Pair {w0 : World} {O : List Nat} {m : List As} {c0 c1 : Value} {a0 : (Sl Int)} {a1 : (Sl Int)} [h0 : DecW w0 O m (Sl Int) c0 a0] [h1 : DecW w0 O m (Sl Int) c1 a1] : DecW w0 O m chapmanref04_Pair (.agg #[c0, c1]) ⟨a0, a1⟩ := ⟨by
  have e0 := h0.eq
  have e1 := h1.eq
  simp only [Elt.val, Value.agg.injEq, Array.mk.injEq, List.cons.injEq, and_true] at e0 e1
  simp only [Elt.val, Value.agg.injEq, Array.mk.injEq, List.cons.injEq, and_true]
  simp_all⟩
instance la_chapmanref04_Pair : Lay Try.prog 24 chapmanref04_Pair := Lay.aggr (by decide)
structure chapmanlaw04_Odd where
  P : chapmanref04_Pair
  B : (Sl (BitVec 8))
instance elt_chapmanlaw04_Odd : Elt chapmanlaw04_Odd where
  sz := 3
  enc x := [x.P.Values.v, x.P.Lengths.v, x.B.v]
  val x := .agg #[x.P.Values.v, x.P.Lengths.v, x.B.v]
  cells _ := rfl
  len _ := rfl
  one x c h := by
    simp only [List.mem_cons, List.not_mem_nil, or_false] at h
    rcases h with rfl | rfl | rfl <;> first | rfl | exact Sl.one _
  pos := by decide
instance agg_chapmanlaw04_Odd : Aggr chapmanlaw04_Odd := ⟨fun _ => rfl⟩
instance val_chapmanlaw04_Odd (x : chapmanlaw04_Odd) : ValR x (.agg #[x.P.Values.v, x.P.Lengths.v, x.B.v]) := ⟨rfl⟩
instance dp_chapmanlaw04_Odd : Dp chapmanlaw04_Odd := ⟨fun w O x => Dp.tru w O x.P ∧ Dp.tru w O x.B, fun hst hO h => ⟨Dp.lift hst hO h.1, Dp.lift hst hO h.2⟩⟩
instance tru_chapmanlaw04_Odd_P {w0 : World} {O : List Nat} {x : chapmanlaw04_Odd} [h : Tru w0 O x] : Tru w0 O x.P := ⟨h.h.1⟩
instance tru_chapmanlaw04_Odd_B {w0 : World} {O : List Nat} {x : chapmanlaw04_Odd} [h : Tru w0 O x] : Tru w0 O x.B := ⟨h.h.2⟩
instance tru_chapmanlaw04_Odd_mk {w0 : World} {O : List Nat} {a0 : chapmanref04_Pair} {a1 : (Sl (BitVec 8))} [h0 : Tru w0 O a0] [h1 : Tru w0 O a1] : Tru w0 O (chapmanlaw04_Odd.mk a0 a1) := ⟨h0.h, h1.h⟩
instance rng_chapmanlaw04_Odd : Rng chapmanlaw04_Odd := ⟨fun x => Rng.rng x.P ∧ Rng.rng x.B⟩
instance fe_chapmanlaw04_Odd_P : FldE chapmanlaw04_Odd 0 chapmanref04_Pair (fun x => x.P) := ⟨fun _ => rfl⟩
instance fe_chapmanlaw04_Odd_B : FldE chapmanlaw04_Odd 2 (Sl (BitVec 8)) (fun x => x.B) := ⟨fun _ => rfl⟩
instance ze_chapmanlaw04_Odd : ZeroE chapmanlaw04_Odd [(.slice none 0 0), (.slice none 0 0), (.slice none 0 0)] ⟨⟨slNil, slNil⟩, slNil⟩ := ⟨rfl⟩
instance dw_chapmanlaw04_Odd {w0 : World} {O : List Nat} {m : List As} {c0 c1 c2 : Value} {a0 : chapmanref04_Pair} {a1 : (Sl (BitVec 8))} [h0 : DecW w0 O m chapmanref04_Pair (.agg #[c0, c1]) a0] [h1 : DecW w0 O m (Sl (BitVec 8)) c2 a1] : DecW w0 O m chapmanlaw04_Odd (.agg #[c0, c1, c2]) ⟨a0, a1⟩ := ⟨by
  have e0 := h0.eq
  have e1 := h1.eq
  simp only [Elt.val, Value.agg.injEq, Array.mk.injEq, List.cons.injEq, and_true] at e0 e1
  simp only [Elt.val, Value.agg.injEq, Array.mk.injEq, List.cons.injEq, and_true]
  simp_all⟩
instance la_chapmanlaw04_Odd : Lay Try.prog 27 chapmanlaw04_Odd := Lay.aggr (by decide)
structure chapmanref04_Encoded where
  B : (Sl (BitVec 8))
  E : Int
instance elt_chapmanref04_Encoded : Elt chapmanref04_Encoded where
  sz := 2
  enc x := [x.B.v, I x.E]
  val x := .agg #[x.B.v, I x.E]
  cells _ := rfl
  len _ := rfl
  one x c h := by
    simp only [List.mem_cons, List.not_mem_nil, or_false] at h
    rcases h with rfl | rfl <;> first | rfl | exact Sl.one _
  pos := by decide
instance agg_chapmanref04_Encoded : Aggr chapmanref04_Encoded := ⟨fun _ => rfl⟩
instance val_chapmanref04_Encoded (x : chapmanref04_Encoded) : ValR x (.agg #[x.B.v, I x.E]) := ⟨rfl⟩
instance dp_chapmanref04_Encoded : Dp chapmanref04_Encoded := ⟨fun w O x => Dp.tru w O x.B ∧ Dp.tru w O x.E, fun hst hO h => ⟨Dp.lift hst hO h.1, Dp.lift hst hO h.2⟩⟩
instance tru_chapmanref04_Encoded_B {w0 : World} {O : List Nat} {x : chapmanref04_Encoded} [h : Tru w0 O x] : Tru w0 O x.B := ⟨h.h.1⟩
instance tru_chapmanref04_Encoded_mk {w0 : World} {O : List Nat} {a0 : (Sl (BitVec 8))} {a1 : Int} [h0 : Tru w0 O a0] [h1 : Tru w0 O a1] : Tru w0 O (chapmanref04_Encoded.mk a0 a1) := ⟨h0.h, h1.h⟩
instance rng_chapmanref04_Encoded : Rng chapmanref04_Encoded := ⟨fun x => Rng.rng x.B ∧ Rng.rng x.E⟩
instance fe_chapmanref04_Encoded_B : FldE chapmanref04_Encoded 0 (Sl (BitVec 8)) (fun x => x.B) := ⟨fun _ => rfl⟩
instance fe_chapmanref04_Encoded_E : FldE chapmanref04_Encoded 1 Int (fun x => x.E) := ⟨fun _ => rfl⟩
instance ze_chapmanref04_Encoded : ZeroE chapmanref04_Encoded [(.slice none 0 0), (.int .i64 0)] ⟨slNil, 0⟩ := ⟨rfl⟩
instance dw_chapmanref04_Encoded {w0 : World} {O : List Nat} {m : List As} {c0 c1 : Value} {a0 : (Sl (BitVec 8))} {a1 : Int} [h0 : DecW w0 O m (Sl (BitVec 8)) c0 a0] [h1 : DecW w0 O m Int c1 a1] : DecW w0 O m chapmanref04_Encoded (.agg #[c0, c1]) ⟨a0, a1⟩ := ⟨by
  have e0 := h0.eq
  have e1 := h1.eq
  simp only [Elt.val, Value.agg.injEq, Array.mk.injEq, List.cons.injEq, and_true] at e0 e1
  simp only [Elt.val, Value.agg.injEq, Array.mk.injEq, List.cons.injEq, and_true]
  simp_all⟩
instance la_chapmanref04_Encoded : Lay Try.prog 33 chapmanref04_Encoded := Lay.aggr (by decide)
structure chapmanref04_List where
  L : (Sl Int)
  E : Int
instance elt_chapmanref04_List : Elt chapmanref04_List where
  sz := 2
  enc x := [x.L.v, I x.E]
  val x := .agg #[x.L.v, I x.E]
  cells _ := rfl
  len _ := rfl
  one x c h := by
    simp only [List.mem_cons, List.not_mem_nil, or_false] at h
    rcases h with rfl | rfl <;> first | rfl | exact Sl.one _
  pos := by decide
instance agg_chapmanref04_List : Aggr chapmanref04_List := ⟨fun _ => rfl⟩
instance val_chapmanref04_List (x : chapmanref04_List) : ValR x (.agg #[x.L.v, I x.E]) := ⟨rfl⟩
instance dp_chapmanref04_List : Dp chapmanref04_List := ⟨fun w O x => Dp.tru w O x.L ∧ Dp.tru w O x.E, fun hst hO h => ⟨Dp.lift hst hO h.1, Dp.lift hst hO h.2⟩⟩
instance tru_chapmanref04_List_L {w0 : World} {O : List Nat} {x : chapmanref04_List} [h : Tru w0 O x] : Tru w0 O x.L := ⟨h.h.1⟩
instance tru_chapmanref04_List_mk {w0 : World} {O : List Nat} {a0 : (Sl Int)} {a1 : Int} [h0 : Tru w0 O a0] [h1 : Tru w0 O a1] : Tru w0 O (chapmanref04_List.mk a0 a1) := ⟨h0.h, h1.h⟩
instance rng_chapmanref04_List : Rng chapmanref04_List := ⟨fun x => Rng.rng x.L ∧ Rng.rng x.E⟩
instance fe_chapmanref04_List_L : FldE chapmanref04_List 0 (Sl Int) (fun x => x.L) := ⟨fun _ => rfl⟩
instance fe_chapmanref04_List_E : FldE chapmanref04_List 1 Int (fun x => x.E) := ⟨fun _ => rfl⟩
instance ze_chapmanref04_List : ZeroE chapmanref04_List [(.slice none 0 0), (.int .i64 0)] ⟨slNil, 0⟩ := ⟨rfl⟩
instance dw_chapmanref04_List {w0 : World} {O : List Nat} {m : List As} {c0 c1 : Value} {a0 : (Sl Int)} {a1 : Int} [h0 : DecW w0 O m (Sl Int) c0 a0] [h1 : DecW w0 O m Int c1 a1] : DecW w0 O m chapmanref04_List (.agg #[c0, c1]) ⟨a0, a1⟩ := ⟨by
  have e0 := h0.eq
  have e1 := h1.eq
  simp only [Elt.val, Value.agg.injEq, Array.mk.injEq, List.cons.injEq, and_true] at e0 e1
  simp only [Elt.val, Value.agg.injEq, Array.mk.injEq, List.cons.injEq, and_true]
  simp_all⟩
instance la_chapmanref04_List : Lay Try.prog 36 chapmanref04_List := Lay.aggr (by decide)
structure chapmanref04_Got where
  L : (Sl Int)
  Rest : (Sl (BitVec 8))
  E : Int
instance elt_chapmanref04_Got : Elt chapmanref04_Got where
  sz := 3
  enc x := [x.L.v, x.Rest.v, I x.E]
  val x := .agg #[x.L.v, x.Rest.v, I x.E]
  cells _ := rfl
  len _ := rfl
  one x c h := by
    simp only [List.mem_cons, List.not_mem_nil, or_false] at h
    rcases h with rfl | rfl | rfl <;> first | rfl | exact Sl.one _
  pos := by decide
instance agg_chapmanref04_Got : Aggr chapmanref04_Got := ⟨fun _ => rfl⟩
instance val_chapmanref04_Got (x : chapmanref04_Got) : ValR x (.agg #[x.L.v, x.Rest.v, I x.E]) := ⟨rfl⟩
instance dp_chapmanref04_Got : Dp chapmanref04_Got := ⟨fun w O x => Dp.tru w O x.L ∧ Dp.tru w O x.Rest ∧ Dp.tru w O x.E, fun hst hO h => ⟨Dp.lift hst hO h.1, Dp.lift hst hO h.2.1, Dp.lift hst hO h.2.2⟩⟩
instance tru_chapmanref04_Got_L {w0 : World} {O : List Nat} {x : chapmanref04_Got} [h : Tru w0 O x] : Tru w0 O x.L := ⟨h.h.1⟩
instance tru_chapmanref04_Got_Rest {w0 : World} {O : List Nat} {x : chapmanref04_Got} [h : Tru w0 O x] : Tru w0 O x.Rest := ⟨h.h.2.1⟩
instance tru_chapmanref04_Got_mk {w0 : World} {O : List Nat} {a0 : (Sl Int)} {a1 : (Sl (BitVec 8))} {a2 : Int} [h0 : Tru w0 O a0] [h1 : Tru w0 O a1] [h2 : Tru w0 O a2] : Tru w0 O (chapmanref04_Got.mk a0 a1 a2) := ⟨h0.h, h1.h, h2.h⟩
instance rng_chapmanref04_Got : Rng chapmanref04_Got := ⟨fun x => Rng.rng x.L ∧ Rng.rng x.Rest ∧ Rng.rng x.E⟩
instance fe_chapmanref04_Got_L : FldE chapmanref04_Got 0 (Sl Int) (fun x => x.L) := ⟨fun _ => rfl⟩
instance fe_chapmanref04_Got_Rest : FldE chapmanref04_Got 1 (Sl (BitVec 8)) (fun x => x.Rest) := ⟨fun _ => rfl⟩
instance fe_chapmanref04_Got_E : FldE chapmanref04_Got 2 Int (fun x => x.E) := ⟨fun _ => rfl⟩
instance ze_chapmanref04_Got : ZeroE chapmanref04_Got [(.slice none 0 0), (.slice none 0 0), (.int .i64 0)] ⟨slNil, slNil, 0⟩ := ⟨rfl⟩
instance dw_chapmanref04_Got {w0 : World} {O : List Nat} {m : List As} {c0 c1 c2 : Value} {a0 : (Sl Int)} {a1 : (Sl (BitVec 8))} {a2 : Int} [h0 : DecW w0 O m (Sl Int) c0 a0] [h1 : DecW w0 O m (Sl (BitVec 8)) c1 a1] [h2 : DecW w0 O m Int c2 a2] : DecW w0 O m chapmanref04_Got (.agg #[c0, c1, c2]) ⟨a0, a1, a2⟩ := ⟨by
  have e0 := h0.eq
  have e1 := h1.eq
  have e2 := h2.eq
  simp only [Elt.val, Value.agg.injEq, Array.mk.injEq, List.cons.injEq, and_true] at e0 e1 e2
  simp only [Elt.val, Value.agg.injEq, Array.mk.injEq, List.cons.injEq, and_true]
  simp_all⟩
instance la_chapmanref04_Got : Lay Try.prog 46 chapmanref04_Got := Lay.aggr (by decide)
structure chapmanref03_Got where
  U : (BitVec 64)
  L : (Sl Int)
  Rest : (Sl (BitVec 8))
  E : Int
instance elt_chapmanref03_Got : Elt chapmanref03_Got where
  sz := 4
  enc x := [U x.U, x.L.v, x.Rest.v, I x.E]
  val x := .agg #[U x.U, x.L.v, x.Rest.v, I x.E]
  cells _ := rfl
  len _ := rfl
  one x c h := by
    simp only [List.mem_cons, List.not_mem_nil, or_false] at h
    rcases h with rfl | rfl | rfl | rfl <;> first | rfl | exact Sl.one _
  pos := by decide
instance agg_chapmanref03_Got : Aggr chapmanref03_Got := ⟨fun _ => rfl⟩
instance val_chapmanref03_Got (x : chapmanref03_Got) : ValR x (.agg #[U x.U, x.L.v, x.Rest.v, I x.E]) := ⟨rfl⟩
instance dp_chapmanref03_Got : Dp chapmanref03_Got := ⟨fun w O x => Dp.tru w O x.U ∧ Dp.tru w O x.L ∧ Dp.tru w O x.Rest ∧ Dp.tru w O x.E, fun hst hO h => ⟨Dp.lift hst hO h.1, Dp.lift hst hO h.2.1, Dp.lift hst hO h.2.2.1, Dp.lift hst hO h.2.2.2⟩⟩
instance tru_chapmanref03_Got_L {w0 : World} {O : List Nat} {x : chapmanref03_Got} [h : Tru w0 O x] : Tru w0 O x.L := ⟨h.h.2.1⟩
instance tru_chapmanref03_Got_Rest {w0 : World} {O : List Nat} {x : chapmanref03_Got} [h : Tru w0 O x] : Tru w0 O x.Rest := ⟨h.h.2.2.1⟩
instance tru_chapmanref03_Got_mk {w0 : World} {O : List Nat} {a0 : (BitVec 64)} {a1 : (Sl Int)} {a2 : (Sl (BitVec 8))} {a3 : Int} [h0 : Tru w0 O a0] [h1 : Tru w0 O a1] [h2 : Tru w0 O a2] [h3 : Tru w0 O a3] : Tru w0 O (chapmanref03_Got.mk a0 a1 a2 a3) := ⟨h0.h, h1.h, h2.h, h3.h⟩
instance rng_chapmanref03_Got : Rng chapmanref03_Got := ⟨fun x => Rng.rng x.U ∧ Rng.rng x.L ∧ Rng.rng x.Rest ∧ Rng.rng x.E⟩
instance fe_chapmanref03_Got_U : FldE chapmanref03_Got 0 (BitVec 64) (fun x => x.U) := ⟨fun _ => rfl⟩
instance fe_chapmanref03_Got_L : FldE chapmanref03_Got 1 (Sl Int) (fun x => x.L) := ⟨fun _ => rfl⟩
instance fe_chapmanref03_Got_Rest : FldE chapmanref03_Got 2 (Sl (BitVec 8)) (fun x => x.Rest) := ⟨fun _ => rfl⟩
instance fe_chapmanref03_Got_E : FldE chapmanref03_Got 3 Int (fun x => x.E) := ⟨fun _ => rfl⟩
instance ze_chapmanref03_Got : ZeroE chapmanref03_Got [(.int .u64 0), (.slice none 0 0), (.slice none 0 0), (.int .i64 0)] ⟨0, slNil, slNil, 0⟩ := ⟨rfl⟩
instance dw_chapmanref03_Got {w0 : World} {O : List Nat} {m : List As} {c0 c1 c2 c3 : Value} {a0 : (BitVec 64)} {a1 : (Sl Int)} {a2 : (Sl (BitVec 8))} {a3 : Int} [h0 : DecW w0 O m (BitVec 64) c0 a0] [h1 : DecW w0 O m (Sl Int) c1 a1] [h2 : DecW w0 O m (Sl (BitVec 8)) c2 a2] [h3 : DecW w0 O m Int c3 a3] : DecW w0 O m chapmanref03_Got (.agg #[c0, c1, c2, c3]) ⟨a0, a1, a2, a3⟩ := ⟨by
  have e0 := h0.eq
  have e1 := h1.eq
  have e2 := h2.eq
  have e3 := h3.eq
  simp only [Elt.val, Value.agg.injEq, Array.mk.injEq, List.cons.injEq, and_true] at e0 e1 e2 e3
  simp only [Elt.val, Value.agg.injEq, Array.mk.injEq, List.cons.injEq, and_true]
  simp_all⟩
instance la_chapmanref03_Got : Lay Try.prog 73 chapmanref03_Got := Lay.aggr (by decide)
structure chapmanref03_Packed where
  B : (Sl (BitVec 8))
  E : Int
instance elt_chapmanref03_Packed : Elt chapmanref03_Packed where
  sz := 2
  enc x := [x.B.v, I x.E]
  val x := .agg #[x.B.v, I x.E]
  cells _ := rfl
  len _ := rfl
  one x c h := by
    simp only [List.mem_cons, List.not_mem_nil, or_false] at h
    rcases h with rfl | rfl <;> first | rfl | exact Sl.one _
  pos := by decide
instance agg_chapmanref03_Packed : Aggr chapmanref03_Packed := ⟨fun _ => rfl⟩
instance val_chapmanref03_Packed (x : chapmanref03_Packed) : ValR x (.agg #[x.B.v, I x.E]) := ⟨rfl⟩
instance dp_chapmanref03_Packed : Dp chapmanref03_Packed := ⟨fun w O x => Dp.tru w O x.B ∧ Dp.tru w O x.E, fun hst hO h => ⟨Dp.lift hst hO h.1, Dp.lift hst hO h.2⟩⟩
instance tru_chapmanref03_Packed_B {w0 : World} {O : List Nat} {x : chapmanref03_Packed} [h : Tru w0 O x] : Tru w0 O x.B := ⟨h.h.1⟩
instance tru_chapmanref03_Packed_mk {w0 : World} {O : List Nat} {a0 : (Sl (BitVec 8))} {a1 : Int} [h0 : Tru w0 O a0] [h1 : Tru w0 O a1] : Tru w0 O (chapmanref03_Packed.mk a0 a1) := ⟨h0.h, h1.h⟩
instance rng_chapmanref03_Packed : Rng chapmanref03_Packed := ⟨fun x => Rng.rng x.B ∧ Rng.rng x.E⟩
instance fe_chapmanref03_Packed_B : FldE chapmanref03_Packed 0 (Sl (BitVec 8)) (fun x => x.B) := ⟨fun _ => rfl⟩
instance fe_chapmanref03_Packed_E : FldE chapmanref03_Packed 1 Int (fun x => x.E) := ⟨fun _ => rfl⟩
instance ze_chapmanref03_Packed : ZeroE chapmanref03_Packed [(.slice none 0 0), (.int .i64 0)] ⟨slNil, 0⟩ := ⟨rfl⟩
instance dw_chapmanref03_Packed {w0 : World} {O : List Nat} {m : List As} {c0 c1 : Value} {a0 : (Sl (BitVec 8))} {a1 : Int} [h0 : DecW w0 O m (Sl (BitVec 8)) c0 a0] [h1 : DecW w0 O m Int c1 a1] : DecW w0 O m chapmanref03_Packed (.agg #[c0, c1]) ⟨a0, a1⟩ := ⟨by
  have e0 := h0.eq
  have e1 := h1.eq
  simp only [Elt.val, Value.agg.injEq, Array.mk.injEq, List.cons.injEq, and_true] at e0 e1
  simp only [Elt.val, Value.agg.injEq, Array.mk.injEq, List.cons.injEq, and_true]
  simp_all⟩
instance la_chapmanref03_Packed : Lay Try.prog 75 chapmanref03_Packed := Lay.aggr (by decide)
instance Cn_2 : CellsN Try.prog 2 1 := ⟨by kernel_rfl⟩
instance Cn_3 : CellsN Try.prog 3 1 := ⟨by kernel_rfl⟩
instance Cn_4 : CellsN Try.prog 4 1 := ⟨by kernel_rfl⟩
instance Cn_5 : CellsN Try.prog 5 1 := ⟨by kernel_rfl⟩
instance Cn_9 : CellsN Try.prog 9 1 := ⟨by kernel_rfl⟩
instance Cn_12 : CellsN Try.prog 12 1 := ⟨by kernel_rfl⟩
instance Cn_22 : CellsN Try.prog 22 1 := ⟨by kernel_rfl⟩
instance Cn_24 : CellsN Try.prog 24 2 := ⟨by kernel_rfl⟩
instance Cn_25 : CellsN Try.prog 25 1 := ⟨by kernel_rfl⟩
instance Cn_27 : CellsN Try.prog 27 3 := ⟨by kernel_rfl⟩
instance La_28 : Lay Try.prog 28 (BitVec 16) := Lay.scal
instance Cn_28 : CellsN Try.prog 28 1 := ⟨by kernel_rfl⟩
instance Cn_29 : CellsN Try.prog 29 2 := ⟨by kernel_rfl⟩
instance La_29 : Lay Try.prog 29 (Ar 2 (BitVec 16)) := Lay.aggr (by decide)
instance Cn_31 : CellsN Try.prog 31 1 := ⟨by kernel_rfl⟩
instance Cn_33 : CellsN Try.prog 33 2 := ⟨by kernel_rfl⟩
instance Cn_36 : CellsN Try.prog 36 2 := ⟨by kernel_rfl⟩
instance Cn_46 : CellsN Try.prog 46 3 := ⟨by kernel_rfl⟩
instance Cn_68 : CellsN Try.prog 68 1 := ⟨by kernel_rfl⟩
instance Cn_71 : CellsN Try.prog 71 1 := ⟨by kernel_rfl⟩
instance Cn_73 : CellsN Try.prog 73 4 := ⟨by kernel_rfl⟩
instance Cn_75 : CellsN Try.prog 75 2 := ⟨by kernel_rfl⟩
instance Cn_86 : CellsN Try.prog 86 1 := ⟨by kernel_rfl⟩
instance Cn_96 : CellsN Try.prog 96 2 := ⟨by kernel_rfl⟩
instance La_96 : Lay Try.prog 96 (Ar 2 Int) := Lay.aggr (by decide)
instance La_98 : Lay Try.prog 98 (BitVec 32) := Lay.scal
instance Cn_98 : CellsN Try.prog 98 1 := ⟨by kernel_rfl⟩
instance op_chapmanref04_Pair : Opn Try.prog 24 chapmanref04_Pair where
  cells := by kernel_rfl
  opn {H enc W fuel cs x} h := by
    obtain ⟨xs, m, rfl, rfl, hl, hxl, hf⟩ := DataW.trod_struct Try.underlying24 h
    have hx : xs.length = 2 := hxl
    have hl : cs.length = 2 := hl.trans (by kernel_rfl)
    obtain ⟨a0, e0, r0, t0⟩ := opn_field (α := (Sl Int)) (i := 0) (off := 0) (ft := 22) (n := 1) hf rfl (by omega) rfl
    have s0 := cells_step e0
    obtain ⟨a1, e1, r1, t1⟩ := opn_field (α := (Sl Int)) (i := 1) (off := 1) (ft := 22) (n := 1) hf rfl (by omega) rfl
    have s1 := cells_step e1
    refine ⟨⟨a0, a1⟩, ?_, ⟨r0, r1⟩, ⟨t0, t1⟩⟩
    have se : cs.drop 2 = [] := List.drop_eq_nil_of_le (by omega)
    simp only [Nat.reduceAdd, List.drop_zero] at s0 s1
    rw [s0, s1, se]; rfl
  val h := val_aggr ⟨_, Try.underlying24, trivial⟩ h
instance op_chapmanlaw04_Odd : Opn Try.prog 27 chapmanlaw04_Odd where
  cells := by kernel_rfl
  opn {H enc W fuel cs x} h := by
    obtain ⟨xs, m, rfl, rfl, hl, hxl, hf⟩ := DataW.trod_struct Try.underlying27 h
    have hx : xs.length = 2 := hxl
    have hl : cs.length = 3 := hl.trans (by kernel_rfl)
    obtain ⟨a0, e0, r0, t0⟩ := opn_field (α := chapmanref04_Pair) (i := 0) (off := 0) (ft := 24) (n := 2) hf rfl (by omega) rfl
    have s0 := cells_step e0
    obtain ⟨a1, e1, r1, t1⟩ := opn_field (α := (Sl (BitVec 8))) (i := 1) (off := 2) (ft := 25) (n := 1) hf rfl (by omega) rfl
    have s1 := cells_step e1
    refine ⟨⟨a0, a1⟩, ?_, ⟨r0, r1⟩, ⟨t0, t1⟩⟩
    have se : cs.drop 3 = [] := List.drop_eq_nil_of_le (by omega)
    simp only [Nat.reduceAdd, List.drop_zero] at s0 s1
    rw [s0, s1, se]; rfl
  val h := val_aggr ⟨_, Try.underlying27, trivial⟩ h
instance op_chapmanref04_Encoded : Opn Try.prog 33 chapmanref04_Encoded where
  cells := by kernel_rfl
  opn {H enc W fuel cs x} h := by
    obtain ⟨xs, m, rfl, rfl, hl, hxl, hf⟩ := DataW.trod_struct Try.underlying33 h
    have hx : xs.length = 2 := hxl
    have hl : cs.length = 2 := hl.trans (by kernel_rfl)
    obtain ⟨a0, e0, r0, t0⟩ := opn_field (α := (Sl (BitVec 8))) (i := 0) (off := 0) (ft := 25) (n := 1) hf rfl (by omega) rfl
    have s0 := cells_step e0
    obtain ⟨a1, e1, r1, t1⟩ := opn_field (α := Int) (i := 1) (off := 1) (ft := 31) (n := 1) hf rfl (by omega) rfl
    have s1 := cells_step e1
    refine ⟨⟨a0, a1⟩, ?_, ⟨r0, r1⟩, ⟨t0, t1⟩⟩
    have se : cs.drop 2 = [] := List.drop_eq_nil_of_le (by omega)
    simp only [Nat.reduceAdd, List.drop_zero] at s0 s1
    rw [s0, s1, se]; rfl
  val h := val_aggr ⟨_, Try.underlying33, trivial⟩ h
instance op_chapmanref04_List : Opn Try.prog 36 chapmanref04_List where
  cells := by kernel_rfl
  opn {H enc W fuel cs x} h := by
    obtain ⟨xs, m, rfl, rfl, hl, hxl, hf⟩ := DataW.trod_struct Try.underlying36 h
    have hx : xs.length = 2 := hxl
    have hl : cs.length = 2 := hl.trans (by kernel_rfl)
    obtain ⟨a0, e0, r0, t0⟩ := opn_field (α := (Sl Int)) (i := 0) (off := 0) (ft := 22) (n := 1) hf rfl (by omega) rfl
    have s0 := cells_step e0
    obtain ⟨a1, e1, r1, t1⟩ := opn_field (α := Int) (i := 1) (off := 1) (ft := 31) (n := 1) hf rfl (by omega) rfl
    have s1 := cells_step e1
    refine ⟨⟨a0, a1⟩, ?_, ⟨r0, r1⟩, ⟨t0, t1⟩⟩
    have se : cs.drop 2 = [] := List.drop_eq_nil_of_le (by omega)
    simp only [Nat.reduceAdd, List.drop_zero] at s0 s1
    rw [s0, s1, se]; rfl
  val h := val_aggr ⟨_, Try.underlying36, trivial⟩ h
instance op_chapmanref04_Got : Opn Try.prog 46 chapmanref04_Got where
  cells := by kernel_rfl
  opn {H enc W fuel cs x} h := by
    obtain ⟨xs, m, rfl, rfl, hl, hxl, hf⟩ := DataW.trod_struct Try.underlying46 h
    have hx : xs.length = 3 := hxl
    have hl : cs.length = 3 := hl.trans (by kernel_rfl)
    obtain ⟨a0, e0, r0, t0⟩ := opn_field (α := (Sl Int)) (i := 0) (off := 0) (ft := 22) (n := 1) hf rfl (by omega) rfl
    have s0 := cells_step e0
    obtain ⟨a1, e1, r1, t1⟩ := opn_field (α := (Sl (BitVec 8))) (i := 1) (off := 1) (ft := 25) (n := 1) hf rfl (by omega) rfl
    have s1 := cells_step e1
    obtain ⟨a2, e2, r2, t2⟩ := opn_field (α := Int) (i := 2) (off := 2) (ft := 31) (n := 1) hf rfl (by omega) rfl
    have s2 := cells_step e2
    refine ⟨⟨a0, a1, a2⟩, ?_, ⟨r0, r1, r2⟩, ⟨t0, t1, t2⟩⟩
    have se : cs.drop 3 = [] := List.drop_eq_nil_of_le (by omega)
    simp only [Nat.reduceAdd, List.drop_zero] at s0 s1 s2
    rw [s0, s1, s2, se]; rfl
  val h := val_aggr ⟨_, Try.underlying46, trivial⟩ h
instance op_chapmanref03_Got : Opn Try.prog 73 chapmanref03_Got where
  cells := by kernel_rfl
  opn {H enc W fuel cs x} h := by
    obtain ⟨xs, m, rfl, rfl, hl, hxl, hf⟩ := DataW.trod_struct Try.underlying73 h
    have hx : xs.length = 4 := hxl
    have hl : cs.length = 4 := hl.trans (by kernel_rfl)
    obtain ⟨a0, e0, r0, t0⟩ := opn_field (α := (BitVec 64)) (i := 0) (off := 0) (ft := 71) (n := 1) hf rfl (by omega) rfl
    have s0 := cells_step e0
    obtain ⟨a1, e1, r1, t1⟩ := opn_field (α := (Sl Int)) (i := 1) (off := 1) (ft := 22) (n := 1) hf rfl (by omega) rfl
    have s1 := cells_step e1
    obtain ⟨a2, e2, r2, t2⟩ := opn_field (α := (Sl (BitVec 8))) (i := 2) (off := 2) (ft := 25) (n := 1) hf rfl (by omega) rfl
    have s2 := cells_step e2
    obtain ⟨a3, e3, r3, t3⟩ := opn_field (α := Int) (i := 3) (off := 3) (ft := 31) (n := 1) hf rfl (by omega) rfl
    have s3 := cells_step e3
    refine ⟨⟨a0, a1, a2, a3⟩, ?_, ⟨r0, r1, r2, r3⟩, ⟨t0, t1, t2, t3⟩⟩
    have se : cs.drop 4 = [] := List.drop_eq_nil_of_le (by omega)
    simp only [Nat.reduceAdd, List.drop_zero] at s0 s1 s2 s3
    rw [s0, s1, s2, s3, se]; rfl
  val h := val_aggr ⟨_, Try.underlying73, trivial⟩ h
instance op_chapmanref03_Packed : Opn Try.prog 75 chapmanref03_Packed where
  cells := by kernel_rfl
  opn {H enc W fuel cs x} h := by
    obtain ⟨xs, m, rfl, rfl, hl, hxl, hf⟩ := DataW.trod_struct Try.underlying75 h
    have hx : xs.length = 2 := hxl
    have hl : cs.length = 2 := hl.trans (by kernel_rfl)
    obtain ⟨a0, e0, r0, t0⟩ := opn_field (α := (Sl (BitVec 8))) (i := 0) (off := 0) (ft := 25) (n := 1) hf rfl (by omega) rfl
    have s0 := cells_step e0
    obtain ⟨a1, e1, r1, t1⟩ := opn_field (α := Int) (i := 1) (off := 1) (ft := 31) (n := 1) hf rfl (by omega) rfl
    have s1 := cells_step e1
    refine ⟨⟨a0, a1⟩, ?_, ⟨r0, r1⟩, ⟨t0, t1⟩⟩
    have se : cs.drop 2 = [] := List.drop_eq_nil_of_le (by omega)
    simp only [Nat.reduceAdd, List.drop_zero] at s0 s1
    rw [s0, s1, se]; rfl
  val h := val_aggr ⟨_, Try.underlying75, trivial⟩ h
instance Fa_29 : Fct (2 = 2 * Elt.sz (BitVec 16)) := ⟨by decide⟩
instance Fa_96 : Fct (2 = 2 * Elt.sz Int) := ⟨by decide⟩
end Go.Proofs.Ytaegfjolemehaaa
