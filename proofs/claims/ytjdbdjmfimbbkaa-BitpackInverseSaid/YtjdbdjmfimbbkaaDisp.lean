/- Which operation stands next: for the walk's dispatch. -/
import Derived.Test.YtjdbdjmfimbbkaaAgg
set_option linter.unusedVariables false
namespace Go.Proofs.Ytjdbdjmfimbbkaa
section
variable {ro : Option Nat} {P : Program} {N : Nat} {D : List Deferred} {w0 : World} {O : List Nat} {ops : Array Oper} {l : List Oper} {s : List (Nat × Value)} {m : List As} {Q : Exit → Act → World → Prop}
variable {d : Option Nat} {ty : TypeId} {pos : String} {af : Array Edge}
theorem Is_move {x : Operand} (h : G ro P N D w0 O ops (⟨d, .move x, ty, pos, af, none⟩ :: l) s m Q) : G ro P N D w0 O ops (⟨d, .move x, ty, pos, af, none⟩ :: l) s m Q := h
theorem Is_assign {x : Operand} (h : G ro P N D w0 O ops (⟨d, .assign x, ty, pos, af, none⟩ :: l) s m Q) : G ro P N D w0 O ops (⟨d, .assign x, ty, pos, af, none⟩ :: l) s m Q := h
theorem Is_bin {o : BinOp} {t t' : TypeId} {x y : Operand} (h : G ro P N D w0 O ops (⟨d, .binOp o t x y t', ty, pos, af, none⟩ :: l) s m Q) : G ro P N D w0 O ops (⟨d, .binOp o t x y t', ty, pos, af, none⟩ :: l) s m Q := h
theorem Is_fieldAddr {t : TypeId} {x : Operand} {i : Nat} (h : G ro P N D w0 O ops (⟨d, .fieldAddr t x i, ty, pos, af, none⟩ :: l) s m Q) : G ro P N D w0 O ops (⟨d, .fieldAddr t x i, ty, pos, af, none⟩ :: l) s m Q := h
theorem Is_indexAddr {t : TypeId} {x y : Operand} (h : G ro P N D w0 O ops (⟨d, .indexAddr t x y, ty, pos, af, none⟩ :: l) s m Q) : G ro P N D w0 O ops (⟨d, .indexAddr t x y, ty, pos, af, none⟩ :: l) s m Q := h
theorem Is_load {t : TypeId} {x : Operand} (h : G ro P N D w0 O ops (⟨d, .load t x, ty, pos, af, none⟩ :: l) s m Q) : G ro P N D w0 O ops (⟨d, .load t x, ty, pos, af, none⟩ :: l) s m Q := h
theorem Is_store {t : TypeId} {x y : Operand} (h : G ro P N D w0 O ops (⟨d, .store t x y, ty, pos, af, none⟩ :: l) s m Q) : G ro P N D w0 O ops (⟨d, .store t x y, ty, pos, af, none⟩ :: l) s m Q := h
theorem Is_builtin {b : Builtin} {x : Array Operand} {t : Array TypeId} (h : G ro P N D w0 O ops (⟨d, .call ⟨.builtin b, x, t⟩, ty, pos, af, none⟩ :: l) s m Q) : G ro P N D w0 O ops (⟨d, .call ⟨.builtin b, x, t⟩, ty, pos, af, none⟩ :: l) s m Q := h
theorem Is_nilCheck {x : Operand} (h : G ro P N D w0 O ops (⟨d, .nilCheck x, ty, pos, af, none⟩ :: l) s m Q) : G ro P N D w0 O ops (⟨d, .nilCheck x, ty, pos, af, none⟩ :: l) s m Q := h
theorem Is_convert {t t' : TypeId} {x : Operand} (h : G ro P N D w0 O ops (⟨d, .convert t t' x, ty, pos, af, none⟩ :: l) s m Q) : G ro P N D w0 O ops (⟨d, .convert t t' x, ty, pos, af, none⟩ :: l) s m Q := h
theorem Is_un {o : UnOp} {t : TypeId} {x : Operand} (h : G ro P N D w0 O ops (⟨d, .unOp o t x, ty, pos, af, none⟩ :: l) s m Q) : G ro P N D w0 O ops (⟨d, .unOp o t x, ty, pos, af, none⟩ :: l) s m Q := h
theorem Is_makeFunc {f : Fn} {x y : Array Operand} (h : G ro P N D w0 O ops (⟨d, .makeFunc f x y, ty, pos, af, none⟩ :: l) s m Q) : G ro P N D w0 O ops (⟨d, .makeFunc f x y, ty, pos, af, none⟩ :: l) s m Q := h
theorem Is_extract {x : Operand} {i : Nat} (h : G ro P N D w0 O ops (⟨d, .extract x i, ty, pos, af, none⟩ :: l) s m Q) : G ro P N D w0 O ops (⟨d, .extract x i, ty, pos, af, none⟩ :: l) s m Q := h
theorem Is_pick {x y z : Operand} (h : G ro P N D w0 O ops (⟨d, .pick x y z, ty, pos, af, none⟩ :: l) s m Q) : G ro P N D w0 O ops (⟨d, .pick x y z, ty, pos, af, none⟩ :: l) s m Q := h
theorem Is_guard {o : Op} {j : Nat} {b : Bool} (h : G ro P N D w0 O ops (⟨d, o, ty, pos, af, some (j, b)⟩ :: l) s m Q) : G ro P N D w0 O ops (⟨d, o, ty, pos, af, some (j, b)⟩ :: l) s m Q := h
end
end Go.Proofs.Ytjdbdjmfimbbkaa
