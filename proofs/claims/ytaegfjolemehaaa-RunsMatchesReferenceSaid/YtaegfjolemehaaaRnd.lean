/- Runs: Repeat, Expand. -/
import Derived.Test.YtaegfjolemehaaaRnc
set_option linter.unusedVariables false
set_option linter.unusedSimpArgs false
set_option maxRecDepth 100000
set_option maxHeartbeats 4000000
namespace Go.Proofs.Ytaegfjolemehaaa
open Go.RowKit
attribute [local irreducible] G GC At wpL DR XPost CPost Cut GA GAR GAX GAt NxA GH GHR NxH

theorem mul64_one (w : World) (x p : BitVec 64) (hx : x = 1#64) (hp : p.toNat < 2 ^ 32) : Calls Try.prog 74 #[.int .u64 (x.toNat : Int), .int .u64 (p.toNat : Int)] w (Is w (.tuple #[U 0#64, U p])) := by
  refine enter (N := 51) (args := [.int .u64 (x.toNat : Int), .int .u64 (p.toNat : Int)]) Try.func74 rfl rfl rfl (St.refl w) ?_
  repeat' (first
  | refine G_nilC ?_
  | refine G_nilN ?_
  | refine G_nilH ?_
  | (refine G_nil ?_; try clear ri_; try clear ops_)
  | (refine V_op ?_; first | exact True.intro | intro v_ h_ w_ r_ t_ | intro (ops_ : Array Oper) ri_ | intro (b_ : Bool) hb_ | intro v_ h_ | intro (v_ : Value) | intro (b_ : Nat) | (refine ⟨fun hc => ?_, fun hc => ?_⟩ <;> try (exfalso; omega)) | refine ⟨?_, ?_⟩ | intro _ | skip)
  | (refine Is_DQ ?_; first | (apply DQ_k rfl rfl rfl; intro mm) | (apply DQ_x rfl rfl rfl; intro mm)))
  refine ret_ rfl (by repeat (first | exact ResAll.nil | (apply ResAll.cons; first | exact .tmp rfl | exact .cell rfl rfl | exact .one rfl))) fun w' h' => ?_
  refine .mk ?_ h'
  subst hx
  have e1 : p >>> 32 = 0#64 := by
    apply BitVec.eq_of_toNat_eq
    rw [BitVec.toNat_ushiftRight, Nat.shiftRight_eq_div_pow, Nat.div_eq_of_lt hp]; rfl
  have e2 : p &&& 4294967295#64 = p := by
    apply BitVec.eq_of_toNat_eq
    rw [BitVec.toNat_and, show (4294967295#64).toNat = 2 ^ 32 - 1 from rfl, Nat.and_two_pow_sub_one_eq_mod, Nat.mod_eq_of_lt hp]
  have e3 : (1#64 : BitVec 64) >>> 32 = 0#64 := by decide
  have e4 : (1#64 : BitVec 64) &&& 4294967295#64 = 1#64 := by decide
  simp [e1, e2, e3, e4, retV]
theorem mul64_1 (w : World) (n : Nat) (hn : n ≤ 100000) : Calls Try.prog 74 #[.int .u64 1, .int .u64 n] w (Is w (.tuple #[.int .u64 0, .int .u64 n])) := by
  have h := mul64_one w 1#64 (BitVec.ofNat 64 n) rfl (by rw [BitVec.toNat_ofNat]; omega)
  have e : (BitVec.ofNat 64 n).toNat = n := by rw [BitVec.toNat_ofNat]; omega
  rw [e] at h
  have e2 : U (BitVec.ofNat 64 n) = .int .u64 (n : Int) := by show Value.int .u64 ((BitVec.ofNat 64 n).toNat : Int) = _; rw [e]
  rw [e2] at h
  exact h
instance {w0 : World} {O : List Nat} {m : List As} {n : Nat} : CallV Try.prog w0 O m 74 [.int .u64 1, .int .u64 (n : Int)] (n ≤ 100000) (.tuple #[.int .u64 0, .int .u64 (n : Int)]) := ⟨fun h w _ => mul64_1 w n h⟩
theorem bits_Mul (w : World) (n : Nat) (hn : n ≤ 100000) : Calls Try.prog 58 #[.int .u64 1, .int .u64 n] w (Is w (.tuple #[.int .u64 0, .int .u64 n])) := by
  refine enter (N := 30) (args := [.int .u64 1, .int .u64 n]) Try.func58 rfl rfl rfl (St.refl w) ?_
  repeat' (first
  | refine G_nilC ?_
  | refine G_nilN ?_
  | refine G_nilH ?_
  | (refine G_nil ?_; try clear ri_; try clear ops_)
  | (refine V_op ?_; first | exact True.intro | intro v_ h_ w_ r_ t_ | intro (ops_ : Array Oper) ri_ | intro (b_ : Bool) hb_ | intro v_ h_ | intro (v_ : Value) | intro (b_ : Nat) | (refine ⟨fun hc => ?_, fun hc => ?_⟩ <;> try (exfalso; omega)) | refine ⟨?_, ?_⟩ | intro _ | skip)
  | (refine Is_DQ ?_; first | (apply DQ_k rfl rfl rfl; intro mm) | (apply DQ_x rfl rfl rfl; intro mm)))
  refine ret_ rfl (by repeat (first | exact ResAll.nil | (apply ResAll.cons; first | exact .tmp rfl | exact .cell rfl rfl | exact .one rfl))) fun w' h' => ?_
  exact .mk rfl h'
instance {w0 : World} {O : List Nat} {m : List As} {a n : Int} : CallV Try.prog w0 O m 58 [.int .u64 a, .int .u64 n] (a = 1 ∧ 0 ≤ n ∧ n ≤ 100000) (.tuple #[.int .u64 0, .int .u64 n]) := ⟨fun h w _ => by
  obtain ⟨k, rfl⟩ : ∃ k : Nat, n = k := ⟨n.toNat, by omega⟩
  rw [h.1]; exact bits_Mul w k (by omega)⟩

theorem lib_Repeat (w : World) (v : Value) (z : Int) (n : Nat) [h : RdOld w [] v [z]] (h1 : 1 ≤ n) (hn : n ≤ 100000) : Calls Try.prog 41 #[v, I n] w (Ret w [] (fun _ : Value => True) (fun r => r) (fun r => [row r 3 (List.replicate n z)])) := by
  have hz : [z].length = 1 := rfl
  refine enter (N := 48) (args := [v, I n]) Try.func41 rfl rfl rfl (St.refl w) ?_
  repeat' (first
  | refine G_nilC ?_
  | refine G_nilN ?_
  | refine G_nilH ?_
  | (refine G_nil ?_; try clear ri_; try clear ops_)
  | (refine V_op ?_; first | exact True.intro | intro v_ h_ w_ r_ t_ | intro (ops_ : Array Oper) ri_ | intro (b_ : Bool) hb_ | intro v_ h_ | intro (v_ : Value) | intro (b_ : Nat) | (refine ⟨fun hc => ?_, fun hc => ?_⟩ <;> try (exfalso; omega)) | refine ⟨?_, ?_⟩ | intro _ | skip)
  | (refine Is_DQ ?_; first | (apply DQ_k rfl rfl rfl; intro mm) | (apply DQ_x rfl rfl rfl; intro mm)))
  have e1 : cpyL (List.replicate n (0 : Int)) 0 [z] (min [z].length (List.replicate n (0 : Int)).length) = List.replicate 1 z ++ List.replicate (n - 1) 0 := by
    have : min [z].length (List.replicate n (0 : Int)).length = 1 := by rw [List.length_replicate]; omega
    rw [this]
    simp [cpyL]
  rw [e1]
  have e2 : ((min [z].length (List.replicate n (0 : Int)).length : Nat) : Int) = ((1 : Nat) : Int) := by rw [List.length_replicate]; omega
  rw [e2]
  refine GC_loopS (X := Nat) (fun k => 1 ≤ k ∧ k ≤ n) (fun k s => (8, I k) :: s) (fun k q => row v_ 3 (List.replicate k z ++ List.replicate (n - k) 0) :: q) (fun k => n - k) 1 ⟨by omega, h1⟩ (by repeat (first | exact trivial | refine And.intro rfl ?_)) ?_ (hm0 := by exact rfl)
  rintro k ⟨hk1, hk⟩
  have hl2 : (List.replicate k z ++ List.replicate (n - k) 0).length = n := by simp; omega
  have hmin : min (List.take (k - 0) (List.drop 0 (List.replicate k z ++ List.replicate (n - k) 0))).length ((List.replicate k z ++ List.replicate (n - k) 0).length - k) = min k (n - k) := by
    rw [hl2]
    simp
  have hcp : cpyL (List.replicate k z ++ List.replicate (n - k) 0) k (List.take (k - 0) (List.drop 0 (List.replicate k z ++ List.replicate (n - k) 0))) (min k (n - k)) = List.replicate (k + min k (n - k)) z ++ List.replicate (n - (k + min k (n - k))) 0 := by
    simp only [cpyL, Nat.sub_zero, List.drop_zero]
    rw [List.take_left' (by simp), List.drop_append, List.take_replicate, List.drop_replicate, List.drop_replicate, ← List.append_assoc, List.length_replicate]
    rw [show k - (k + min k (n - k)) = 0 by omega, List.replicate_zero, List.nil_append, Nat.min_eq_left (Nat.min_le_left k _), List.replicate_append_replicate]
    congr 2; omega
  repeat' (first
  | refine G_nilC ?_
  | refine G_nilN ?_
  | refine G_nilH ?_
  | (refine G_nil ?_; try clear ri_; try clear ops_)
  | (refine V_op ?_; first | exact True.intro | intro v_ h_ w_ r_ t_ | intro (ops_ : Array Oper) ri_ | intro (b_ : Bool) hb_ | intro v_ h_ | intro (v_ : Value) | intro (b_ : Nat) | (refine ⟨fun hc => ?_, fun hc => ?_⟩ <;> try (exfalso; omega)) | refine ⟨?_, ?_⟩ | intro _ | skip)
  | (refine Is_DQ ?_; first | (apply DQ_k rfl rfl rfl; intro mm) | (apply DQ_x rfl rfl rfl; intro mm)))
  · rw [hmin, hcp, show (k : Int) + ((min k (n - k) : Nat) : Int) = ((k + min k (n - k) : Nat) : Int) by omega]
    exact At_roundS (k + min k (n - k)) (by omega) (by omega) (by repeat (first | exact trivial | refine And.intro rfl ?_)) (by repeat (first | exact trivial | refine And.intro rfl ?_))
  · obtain rfl : k = n := by omega
    rw [Nat.sub_self, List.replicate_zero, List.append_nil]
    refine ret_ rfl (by repeat (first | exact ResAll.nil | (apply ResAll.cons; first | exact .tmp rfl | exact .cell rfl rfl | exact .one rfl))) fun w' h' => ?_
    exact .mk _ trivial rfl h'
instance {w0 : World} {O : List Nat} {m : List As} {v : Value} {xs : List Int} {n : Int} [h : RdR w0 O m v xs] : CallR Try.prog w0 O m 41 [v, I n] (xs.length = 1 ∧ 1 ≤ n ∧ n ≤ 100000) (fun _ : Value => True) (fun r => r) (fun r => row r 3 (List.replicate n.toNat (xs.headD 0)) :: m) :=
  .new1 (M := fun r => row r _ (List.replicate n.toNat (xs.headD 0))) fun hs w hw => by
    obtain ⟨z, rfl⟩ := List.length_eq_one_iff.1 hs.1
    obtain ⟨k, rfl⟩ : ∃ k : Nat, n = k := ⟨n.toNat, by omega⟩
    exact @lib_Repeat w v z k (RdOld.of (h.rd w hw)) (by omega) (by omega)

/-- the first checks of Expand -/
def expBad (vs ls : List Int) (i : Nat) : Prop := ls.getD i 0 < 1 ∨ 0 < i ∧ vs.getD i 0 = vs.getD (i - 1) 0
instance (vs ls : List Int) (i : Nat) : Decidable (expBad vs ls i) := by unfold expBad; exact inferInstance
/-- what is expanded, from the i-th run on -/
def expGo (out : List Int) : List (Int × Int) → Except Int (List Int)
  | [] => .ok out
  | (v, n) :: r => if n > 4096 - (out.length : Int) then .error 2 else expGo (out ++ List.replicate n.toNat v) r
def expE (vs ls : List Int) : Except Int (List Int) :=
  if vs.length ≠ ls.length then .error 1
  else if ∃ i, i < ls.length ∧ expBad vs ls i then .error 1
  else expGo [] (vs.zip ls)
def expV (r : Value) : Except Int (List Int) → Value
  | .error e => .tuple #[.slice none 0 0, I e]
  | .ok _ => .tuple #[r, I 0]
def expL : Except Int (List Int) → List Int
  | .error _ => []
  | .ok l => l
theorem not_bad {vs ls : List Int} {y : Nat} (h1 : y < ls.length) (h2 : y < vs.length) : ¬ expBad vs ls y ↔ ¬ ls[y] < 1 ∧ (0 < y → ¬ vs[y] = vs[y - 1]) := by
  unfold expBad
  rw [List.getD_eq_getElem?_getD, List.getElem?_eq_getElem h1, List.getD_eq_getElem?_getD, List.getElem?_eq_getElem h2, List.getD_eq_getElem?_getD, List.getElem?_eq_getElem (show y - 1 < vs.length by omega)]
  simp only [Option.getD_some, not_or, not_and]
theorem exp_bad {vs ls : List Int} {r : Except Int (List Int)} {y : Nat} (hl : vs.length = ls.length) (hy : y < ls.length) (h : expBad vs ls y) (hr : expE vs ls = r) : r = .error 1 := by
  rw [← hr, expE, if_neg (by omega), if_pos ⟨y, hy, h⟩]
theorem exp_good {vs ls : List Int} {r : Except Int (List Int)} (hl : vs.length = ls.length) (h : ∀ i, i < ls.length → ¬ expBad vs ls i) (hr : expE vs ls = r) : expGo [] (vs.zip ls) = r := by
  rw [← hr, expE, if_neg (by omega), if_neg (fun ⟨i, h1, h2⟩ => h i h1 h2)]
theorem zip_drop {vs ls : List Int} {i : Nat} (h1 : i < vs.length) (h2 : i < ls.length) : (vs.zip ls).drop i = (vs[i], ls[i]) :: (vs.zip ls).drop (i + 1) := by
  rw [List.drop_eq_getElem_cons (by simp; omega)]; simp
theorem head_one {vs : List Int} {i : Nat} (h : i < vs.length) : ((vs.drop i).take (i + 1 - i)).headD 0 = vs[i] := by
  rw [List.drop_eq_getElem_cons h, show i + 1 - i = 1 by omega]; rfl
theorem run_Expand (w : World) (v u : Value) (vs ls : List Int) [h : RdOld w [] v vs] [h' : RdOld w [] u ls] (hv : vs.length ≤ 100000) (hl : ls.length ≤ 100000) (r : Except Int (List Int)) (hr : expE vs ls = r) :
    Calls Try.prog 31 #[v, u] w (Ret w [] (fun _ : Value => True) (fun q => expV q r) (fun q => [row q 3 (expL r)])) := by
  by_cases hlen : vs.length = ls.length
  · refine enter (N := 65) (args := [v, u]) Try.func31 rfl rfl rfl (St.refl w) ?_
    repeat' (first
  | refine G_nilC ?_
  | refine G_nilN ?_
  | refine G_nilH ?_
  | (refine G_nil ?_; try clear ri_; try clear ops_)
  | (refine V_op ?_; first | exact True.intro | intro v_ h_ w_ r_ t_ | intro (ops_ : Array Oper) ri_ | intro (b_ : Bool) hb_ | intro v_ h_ | intro (v_ : Value) | intro (b_ : Nat) | (refine ⟨fun hc => ?_, fun hc => ?_⟩ <;> try (exfalso; omega)) | refine ⟨?_, ?_⟩ | intro _ | skip)
  | (refine Is_DQ ?_; first | (apply DQ_k rfl rfl rfl; intro mm) | (apply DQ_x rfl rfl rfl; intro mm)))
    refine GC_loopS (X := Nat) (fun y => y ≤ ls.length ∧ ∀ i, i < y → ¬ expBad vs ls i) (fun y s => (18, I y) :: s) (fun _ q => q) (fun y => ls.length - y) 0 ⟨Nat.zero_le _, fun i hi => by omega⟩ (by repeat (first | exact trivial | refine And.intro rfl ?_)) ?_
    rintro y ⟨hy, hok⟩
    by_cases hyl : y < ls.length
    · haveI : Fct (y < ls.length) := ⟨hyl⟩
      haveI : Fct (y < vs.length) := ⟨by omega⟩
      haveI : Fct (y - 1 < vs.length) := ⟨by omega⟩
      have hnb := not_bad (vs := vs) hyl (by omega)
      by_cases hb : expBad vs ls y
      · obtain rfl := exp_bad hlen hyl hb hr
        by_cases h1 : ls[y] < 1
        · repeat' (first
  | refine G_nilC ?_
  | refine G_nilN ?_
  | refine G_nilH ?_
  | (refine G_nil ?_; try clear ri_; try clear ops_)
  | (refine V_op ?_; first | exact True.intro | intro v_ h_ w_ r_ t_ | intro (ops_ : Array Oper) ri_ | intro (b_ : Bool) hb_ | intro v_ h_ | intro (v_ : Value) | intro (b_ : Nat) | (refine ⟨fun hc => ?_, fun hc => ?_⟩ <;> try (exfalso; omega)) | refine ⟨?_, ?_⟩ | intro _ | skip)
  | (refine Is_DQ ?_; first | (apply DQ_k rfl rfl rfl; intro mm) | (apply DQ_x rfl rfl rfl; intro mm)))
          refine ret_ rfl (by repeat (first | exact ResAll.nil | (apply ResAll.cons; first | exact .tmp rfl | exact .cell rfl rfl | exact .one rfl))) fun w' h' => ?_
          exact .mk (M := fun q => [row q 3 ([] : List Int)]) (.slice none 0 0) trivial rfl h'
        · by_cases h2 : 0 < y
          · repeat' (first
  | refine G_nilC ?_
  | refine G_nilN ?_
  | refine G_nilH ?_
  | (refine G_nil ?_; try clear ri_; try clear ops_)
  | (refine V_op ?_; first | exact True.intro | intro v_ h_ w_ r_ t_ | intro (ops_ : Array Oper) ri_ | intro (b_ : Bool) hb_ | intro v_ h_ | intro (v_ : Value) | intro (b_ : Nat) | (refine ⟨fun hc => ?_, fun hc => ?_⟩ <;> try (exfalso; omega)) | refine ⟨?_, ?_⟩ | intro _ | skip)
  | (refine Is_DQ ?_; first | (apply DQ_k rfl rfl rfl; intro mm) | (apply DQ_x rfl rfl rfl; intro mm)))
            · refine ret_ rfl (by repeat (first | exact ResAll.nil | (apply ResAll.cons; first | exact .tmp rfl | exact .cell rfl rfl | exact .one rfl))) fun w' h' => ?_
              exact .mk (M := fun q => [row q 3 ([] : List Int)]) (.slice none 0 0) trivial rfl h'
            · exact absurd hb (hnb.2 ⟨h1, fun _ => by assumption⟩)
          · exact absurd hb (hnb.2 ⟨h1, fun h => absurd h h2⟩)
      · obtain ⟨h1, h3⟩ := hnb.1 hb
        by_cases h2 : 0 < y
        · have h4 := h3 h2
          repeat' (first
  | refine G_nilC ?_
  | refine G_nilN ?_
  | refine G_nilH ?_
  | (refine G_nil ?_; try clear ri_; try clear ops_)
  | (refine V_op ?_; first | exact True.intro | intro v_ h_ w_ r_ t_ | intro (ops_ : Array Oper) ri_ | intro (b_ : Bool) hb_ | intro v_ h_ | intro (v_ : Value) | intro (b_ : Nat) | (refine ⟨fun hc => ?_, fun hc => ?_⟩ <;> try (exfalso; omega)) | refine ⟨?_, ?_⟩ | intro _ | skip)
  | (refine Is_DQ ?_; first | (apply DQ_k rfl rfl rfl; intro mm) | (apply DQ_x rfl rfl rfl; intro mm)))
          exact At_roundS (y + 1) ⟨by omega, fun i hi => by
              by_cases e : i = y
              · subst e; exact hb
              · exact hok i (by omega)⟩ (by omega) (by repeat (first | exact trivial | refine And.intro rfl ?_)) (by repeat (first | exact trivial | refine And.intro rfl ?_))
        · repeat' (first
  | refine G_nilC ?_
  | refine G_nilN ?_
  | refine G_nilH ?_
  | (refine G_nil ?_; try clear ri_; try clear ops_)
  | (refine V_op ?_; first | exact True.intro | intro v_ h_ w_ r_ t_ | intro (ops_ : Array Oper) ri_ | intro (b_ : Bool) hb_ | intro v_ h_ | intro (v_ : Value) | intro (b_ : Nat) | (refine ⟨fun hc => ?_, fun hc => ?_⟩ <;> try (exfalso; omega)) | refine ⟨?_, ?_⟩ | intro _ | skip)
  | (refine Is_DQ ?_; first | (apply DQ_k rfl rfl rfl; intro mm) | (apply DQ_x rfl rfl rfl; intro mm)))
          exact At_roundS (y + 1) ⟨by omega, fun i hi => by
              by_cases e : i = y
              · subst e; exact hb
              · exact hok i (by omega)⟩ (by omega) (by repeat (first | exact trivial | refine And.intro rfl ?_)) (by repeat (first | exact trivial | refine And.intro rfl ?_))
    · obtain rfl : y = ls.length := by omega
      have hgo := exp_good hlen hok hr
      repeat' (first
  | refine G_nilC ?_
  | refine G_nilN ?_
  | refine G_nilH ?_
  | (refine G_nil ?_; try clear ri_; try clear ops_)
  | (refine V_op ?_; first | exact True.intro | intro v_ h_ w_ r_ t_ | intro (ops_ : Array Oper) ri_ | intro (b_ : Bool) hb_ | intro v_ h_ | intro (v_ : Value) | intro (b_ : Nat) | (refine ⟨fun hc => ?_, fun hc => ?_⟩ <;> try (exfalso; omega)) | refine ⟨?_, ?_⟩ | intro _ | skip)
  | (refine Is_DQ ?_; first | (apply DQ_k rfl rfl rfl; intro mm) | (apply DQ_x rfl rfl rfl; intro mm)))
      refine GC_loopS (X := Nat × Value × List Int) (fun y => y.1 ≤ ls.length ∧ expGo y.2.2 ((vs.zip ls).drop y.1) = r ∧ y.2.2.length ≤ 4096) (fun y s => (8, y.2.1) :: (44, I y.1) :: s) (fun y q => row y.2.1 3 y.2.2 :: q) (fun y => ls.length - y.1) (0, .slice none 0 0, []) ⟨Nat.zero_le _, hgo, by simp⟩ (by repeat (first | exact trivial | refine And.intro rfl ?_)) ?_
      rintro ⟨i, q, out⟩ ⟨hi, hg, ho⟩
      simp only at hi hg ho ⊢
      by_cases hil : i < ls.length
      · have hiv : i < vs.length := by omega
        haveI : Fct (i < ls.length) := ⟨hil⟩
        have hnb := (not_bad (vs := vs) hil hiv).1 (hok i hil)
        have hcl : ((vs.drop i).take (i + 1 - i)).length = 1 := by simp; omega
        rw [zip_drop hiv hil, expGo] at hg
        repeat' (first
  | refine G_nilC ?_
  | refine G_nilN ?_
  | refine G_nilH ?_
  | (refine G_nil ?_; try clear ri_; try clear ops_)
  | (refine V_op ?_; first | exact True.intro | intro v_ h_ w_ r_ t_ | intro (ops_ : Array Oper) ri_ | intro (b_ : Bool) hb_ | intro v_ h_ | intro (v_ : Value) | intro (b_ : Nat) | (refine ⟨fun hc => ?_, fun hc => ?_⟩ <;> try (exfalso; omega)) | refine ⟨?_, ?_⟩ | intro _ | skip)
  | (refine Is_DQ ?_; first | (apply DQ_k rfl rfl rfl; intro mm) | (apply DQ_x rfl rfl rfl; intro mm)))
        · rw [if_pos (by omega)] at hg
          subst hg
          refine ret_ rfl (by repeat (first | exact ResAll.nil | (apply ResAll.cons; first | exact .tmp rfl | exact .cell rfl rfl | exact .one rfl))) fun w' h' => ?_
          exact .mk (M := fun q => [row q 3 ([] : List Int)]) (.slice none 0 0) trivial rfl h'
        · rw [if_neg (by omega)] at hg
          rw [head_one hiv]
          exact At_roundS (i + 1, _, _) ⟨by simp only; omega, hg, by simp only [List.length_append, List.length_replicate]; omega⟩ (by simp only; omega) (by repeat (first | exact trivial | refine And.intro rfl ?_)) (by repeat (first | exact trivial | refine And.intro rfl ?_))
      · rw [List.drop_of_length_le (by simp; omega), expGo] at hg
        subst hg
        repeat' (first
  | refine G_nilC ?_
  | refine G_nilN ?_
  | refine G_nilH ?_
  | (refine G_nil ?_; try clear ri_; try clear ops_)
  | (refine V_op ?_; first | exact True.intro | intro v_ h_ w_ r_ t_ | intro (ops_ : Array Oper) ri_ | intro (b_ : Bool) hb_ | intro v_ h_ | intro (v_ : Value) | intro (b_ : Nat) | (refine ⟨fun hc => ?_, fun hc => ?_⟩ <;> try (exfalso; omega)) | refine ⟨?_, ?_⟩ | intro _ | skip)
  | (refine Is_DQ ?_; first | (apply DQ_k rfl rfl rfl; intro mm) | (apply DQ_x rfl rfl rfl; intro mm)))
        refine ret_ rfl (by repeat (first | exact ResAll.nil | (apply ResAll.cons; first | exact .tmp rfl | exact .cell rfl rfl | exact .one rfl))) fun w' h' => ?_
        exact .mk (M := fun q => [row q 3 out]) q trivial rfl h'
  · rw [expE, if_pos hlen] at hr
    subst hr
    refine enter (N := 65) (args := [v, u]) Try.func31 rfl rfl rfl (St.refl w) ?_
    repeat' (first
  | refine G_nilC ?_
  | refine G_nilN ?_
  | refine G_nilH ?_
  | (refine G_nil ?_; try clear ri_; try clear ops_)
  | (refine V_op ?_; first | exact True.intro | intro v_ h_ w_ r_ t_ | intro (ops_ : Array Oper) ri_ | intro (b_ : Bool) hb_ | intro v_ h_ | intro (v_ : Value) | intro (b_ : Nat) | (refine ⟨fun hc => ?_, fun hc => ?_⟩ <;> try (exfalso; omega)) | refine ⟨?_, ?_⟩ | intro _ | skip)
  | (refine Is_DQ ?_; first | (apply DQ_k rfl rfl rfl; intro mm) | (apply DQ_x rfl rfl rfl; intro mm)))
    refine ret_ rfl (by repeat (first | exact ResAll.nil | (apply ResAll.cons; first | exact .tmp rfl | exact .cell rfl rfl | exact .one rfl))) fun w' h' => ?_
    exact .mk (M := fun q => [row q 3 ([] : List Int)]) (.slice none 0 0) trivial rfl h'
instance {w0 : World} {O : List Nat} {m : List As} {v u : Value} {vs ls : List Int} [h : RdR w0 O m v vs] [h' : RdR w0 O m u ls] {r : Except Int (List Int)} [hr : Eqn (expE vs ls) r] : CallR Try.prog w0 O m 31 [v, u] (vs.length ≤ 100000 ∧ ls.length ≤ 100000) (fun _ : Value => True) (fun q => expV q r) (fun q => row q 3 (expL r) :: m) :=
  .new1 (M := fun q => row q _ (expL r)) fun hs w hw => @run_Expand w v u vs ls (RdOld.of (h.rd w hw)) (RdOld.of (h'.rd w hw)) hs.1 hs.2 r hr.eq

def expA (r : Value) : Except Int (List Int) → Value
  | .error e => .agg #[.slice none 0 0, I e]
  | .ok _ => .agg #[r, I 0]
theorem ref_Expand (w : World) (v u : Value) (vs ls : List Int) [h : RdOld w [] v vs] [h' : RdOld w [] u ls] (hv : vs.length ≤ 100000) (hl : ls.length ≤ 100000) (r : Except Int (List Int)) (hr : expE vs ls = r) :
    Calls Try.prog 13 #[.agg #[v, u]] w (Ret w [] (fun _ : Value => True) (fun q => expA q r) (fun q => [row q 3 (expL r)])) := by
  by_cases hlen : vs.length = ls.length
  · refine enter (N := 84) (args := [.agg #[v, u]]) Try.func13 rfl rfl rfl (St.refl w) ?_
    repeat' (first
  | refine G_nilC ?_
  | refine G_nilN ?_
  | refine G_nilH ?_
  | (refine G_nil ?_; try clear ri_; try clear ops_)
  | (refine V_op ?_; first | exact True.intro | intro v_ h_ w_ r_ t_ | intro (ops_ : Array Oper) ri_ | intro (b_ : Bool) hb_ | intro v_ h_ | intro (v_ : Value) | intro (b_ : Nat) | (refine ⟨fun hc => ?_, fun hc => ?_⟩ <;> try (exfalso; omega)) | refine ⟨?_, ?_⟩ | intro _ | skip)
  | (refine Is_DQ ?_; first | (apply DQ_k rfl rfl rfl; intro mm) | (apply DQ_x rfl rfl rfl; intro mm)))
    refine GC_loopS (X := Nat) (fun y => y ≤ ls.length ∧ ∀ i, i < y → ¬ expBad vs ls i) (fun y s => (3, I y) :: s) (fun _ q => q) (fun y => ls.length - y) 0 ⟨Nat.zero_le _, fun i hi => by omega⟩ (by repeat (first | exact trivial | refine And.intro rfl ?_)) ?_
    rintro y ⟨hy, hok⟩
    by_cases hyl : y < ls.length
    · haveI : Fct (y < ls.length) := ⟨hyl⟩
      haveI : Fct (y < vs.length) := ⟨by omega⟩
      haveI : Fct (y - 1 < vs.length) := ⟨by omega⟩
      have hnb := not_bad (vs := vs) hyl (by omega)
      by_cases hb : expBad vs ls y
      · obtain rfl := exp_bad hlen hyl hb hr
        by_cases h1 : ls[y] < 1
        · repeat' (first
  | refine G_nilC ?_
  | refine G_nilN ?_
  | refine G_nilH ?_
  | (refine G_nil ?_; try clear ri_; try clear ops_)
  | (refine V_op ?_; first | exact True.intro | intro v_ h_ w_ r_ t_ | intro (ops_ : Array Oper) ri_ | intro (b_ : Bool) hb_ | intro v_ h_ | intro (v_ : Value) | intro (b_ : Nat) | (refine ⟨fun hc => ?_, fun hc => ?_⟩ <;> try (exfalso; omega)) | refine ⟨?_, ?_⟩ | intro _ | skip)
  | (refine Is_DQ ?_; first | (apply DQ_k rfl rfl rfl; intro mm) | (apply DQ_x rfl rfl rfl; intro mm)))
          refine ret_ rfl (by repeat (first | exact ResAll.nil | (apply ResAll.cons; first | exact .tmp rfl | exact .cell rfl rfl | exact .one rfl))) fun w' h' => ?_
          exact .mk (M := fun q => [row q 3 ([] : List Int)]) (.slice none 0 0) trivial rfl h'
        · by_cases h2 : 0 < y
          · repeat' (first
  | refine G_nilC ?_
  | refine G_nilN ?_
  | refine G_nilH ?_
  | (refine G_nil ?_; try clear ri_; try clear ops_)
  | (refine V_op ?_; first | exact True.intro | intro v_ h_ w_ r_ t_ | intro (ops_ : Array Oper) ri_ | intro (b_ : Bool) hb_ | intro v_ h_ | intro (v_ : Value) | intro (b_ : Nat) | (refine ⟨fun hc => ?_, fun hc => ?_⟩ <;> try (exfalso; omega)) | refine ⟨?_, ?_⟩ | intro _ | skip)
  | (refine Is_DQ ?_; first | (apply DQ_k rfl rfl rfl; intro mm) | (apply DQ_x rfl rfl rfl; intro mm)))
            · refine ret_ rfl (by repeat (first | exact ResAll.nil | (apply ResAll.cons; first | exact .tmp rfl | exact .cell rfl rfl | exact .one rfl))) fun w' h' => ?_
              exact .mk (M := fun q => [row q 3 ([] : List Int)]) (.slice none 0 0) trivial rfl h'
            · exact absurd hb (hnb.2 ⟨h1, fun _ => by assumption⟩)
          · exact absurd hb (hnb.2 ⟨h1, fun h => absurd h h2⟩)
      · obtain ⟨h1, h3⟩ := hnb.1 hb
        by_cases h2 : 0 < y
        · have h4 := h3 h2
          repeat' (first
  | refine G_nilC ?_
  | refine G_nilN ?_
  | refine G_nilH ?_
  | (refine G_nil ?_; try clear ri_; try clear ops_)
  | (refine V_op ?_; first | exact True.intro | intro v_ h_ w_ r_ t_ | intro (ops_ : Array Oper) ri_ | intro (b_ : Bool) hb_ | intro v_ h_ | intro (v_ : Value) | intro (b_ : Nat) | (refine ⟨fun hc => ?_, fun hc => ?_⟩ <;> try (exfalso; omega)) | refine ⟨?_, ?_⟩ | intro _ | skip)
  | (refine Is_DQ ?_; first | (apply DQ_k rfl rfl rfl; intro mm) | (apply DQ_x rfl rfl rfl; intro mm)))
          exact At_roundS (y + 1) ⟨by omega, fun i hi => by
              by_cases e : i = y
              · subst e; exact hb
              · exact hok i (by omega)⟩ (by omega) (by repeat (first | exact trivial | refine And.intro rfl ?_)) (by repeat (first | exact trivial | refine And.intro rfl ?_))
        · repeat' (first
  | refine G_nilC ?_
  | refine G_nilN ?_
  | refine G_nilH ?_
  | (refine G_nil ?_; try clear ri_; try clear ops_)
  | (refine V_op ?_; first | exact True.intro | intro v_ h_ w_ r_ t_ | intro (ops_ : Array Oper) ri_ | intro (b_ : Bool) hb_ | intro v_ h_ | intro (v_ : Value) | intro (b_ : Nat) | (refine ⟨fun hc => ?_, fun hc => ?_⟩ <;> try (exfalso; omega)) | refine ⟨?_, ?_⟩ | intro _ | skip)
  | (refine Is_DQ ?_; first | (apply DQ_k rfl rfl rfl; intro mm) | (apply DQ_x rfl rfl rfl; intro mm)))
          exact At_roundS (y + 1) ⟨by omega, fun i hi => by
              by_cases e : i = y
              · subst e; exact hb
              · exact hok i (by omega)⟩ (by omega) (by repeat (first | exact trivial | refine And.intro rfl ?_)) (by repeat (first | exact trivial | refine And.intro rfl ?_))
    · obtain rfl : y = ls.length := by omega
      have hgo := exp_good hlen hok hr
      repeat' (first
  | refine G_nilC ?_
  | refine G_nilN ?_
  | refine G_nilH ?_
  | (refine G_nil ?_; try clear ri_; try clear ops_)
  | (refine V_op ?_; first | exact True.intro | intro v_ h_ w_ r_ t_ | intro (ops_ : Array Oper) ri_ | intro (b_ : Bool) hb_ | intro v_ h_ | intro (v_ : Value) | intro (b_ : Nat) | (refine ⟨fun hc => ?_, fun hc => ?_⟩ <;> try (exfalso; omega)) | refine ⟨?_, ?_⟩ | intro _ | skip)
  | (refine Is_DQ ?_; first | (apply DQ_k rfl rfl rfl; intro mm) | (apply DQ_x rfl rfl rfl; intro mm)))
      refine GC_loopS (X := Nat × Value × List Int) (fun y => y.1 ≤ ls.length ∧ expGo y.2.2 ((vs.zip ls).drop y.1) = r ∧ y.2.2.length ≤ 4096) (fun y s => (4, y.2.1) :: (5, I y.1) :: s) (fun y q => row y.2.1 3 y.2.2 :: q) (fun y => ls.length - y.1) (0, _, []) ⟨Nat.zero_le _, hgo, by simp⟩ (by repeat (first | exact trivial | refine And.intro rfl ?_)) ?_
      rintro ⟨i, q, out⟩ ⟨hi, hg, ho⟩
      simp only at hi hg ho ⊢
      by_cases hil : i < ls.length
      · have hiv : i < vs.length := by omega
        haveI : Fct (i < ls.length) := ⟨hil⟩
        have hnb := (not_bad (vs := vs) hil hiv).1 (hok i hil)
        rw [zip_drop hiv hil, expGo] at hg
        repeat' (first
  | refine G_nilC ?_
  | refine G_nilN ?_
  | refine G_nilH ?_
  | (refine G_nil ?_; try clear ri_; try clear ops_)
  | (refine V_op ?_; first | exact True.intro | intro v_ h_ w_ r_ t_ | intro (ops_ : Array Oper) ri_ | intro (b_ : Bool) hb_ | intro v_ h_ | intro (v_ : Value) | intro (b_ : Nat) | (refine ⟨fun hc => ?_, fun hc => ?_⟩ <;> try (exfalso; omega)) | refine ⟨?_, ?_⟩ | intro _ | skip)
  | (refine Is_DQ ?_; first | (apply DQ_k rfl rfl rfl; intro mm) | (apply DQ_x rfl rfl rfl; intro mm)))
        · rw [if_pos (by omega)] at hg
          subst hg
          refine ret_ rfl (by repeat (first | exact ResAll.nil | (apply ResAll.cons; first | exact .tmp rfl | exact .cell rfl rfl | exact .one rfl))) fun w' h' => ?_
          exact .mk (M := fun q => [row q 3 ([] : List Int)]) (.slice none 0 0) trivial rfl h'
        · rw [if_neg (by omega)] at hg
          refine GC_loopS (X := Nat × Value) (fun y => (y.1 : Int) ≤ ls[i]) (fun y s => (4, y.2) :: (6, I y.1) :: s) (fun y q => row y.2 3 (out ++ List.replicate y.1 vs[i]) :: q) (fun y => ls[i].toNat - y.1) (0, q) (by omega) (by repeat (first | exact trivial | refine And.intro rfl ?_)) ?_ (hm0 := by simp only [List.replicate_zero, List.append_nil]; exact rfl)
          rintro ⟨k, q⟩ hk
          simp only at hk ⊢
          have hlk : (out ++ List.replicate k vs[i]).length = out.length + k := by simp
          repeat' (first
  | refine G_nilC ?_
  | refine G_nilN ?_
  | refine G_nilH ?_
  | (refine G_nil ?_; try clear ri_; try clear ops_)
  | (refine V_op ?_; first | exact True.intro | intro v_ h_ w_ r_ t_ | intro (ops_ : Array Oper) ri_ | intro (b_ : Bool) hb_ | intro v_ h_ | intro (v_ : Value) | intro (b_ : Nat) | (refine ⟨fun hc => ?_, fun hc => ?_⟩ <;> try (exfalso; omega)) | refine ⟨?_, ?_⟩ | intro _ | skip)
  | (refine Is_DQ ?_; first | (apply DQ_k rfl rfl rfl; intro mm) | (apply DQ_x rfl rfl rfl; intro mm)))
          · exact At_roundS (k + 1, _) (by simp only; omega) (by simp only; omega) (by repeat (first | exact trivial | refine And.intro rfl ?_)) (by repeat (first | exact trivial | refine And.intro rfl ?_))
          · obtain rfl : k = ls[i].toNat := by omega
            exact At_roundS (i + 1, _, _) ⟨by simp only; omega, hg, by simp only [List.length_append, List.length_replicate]; omega⟩ (by simp only; omega) (by repeat (first | exact trivial | refine And.intro rfl ?_)) (by repeat (first | exact trivial | refine And.intro rfl ?_))
      · rw [List.drop_of_length_le (by simp; omega), expGo] at hg
        subst hg
        repeat' (first
  | refine G_nilC ?_
  | refine G_nilN ?_
  | refine G_nilH ?_
  | (refine G_nil ?_; try clear ri_; try clear ops_)
  | (refine V_op ?_; first | exact True.intro | intro v_ h_ w_ r_ t_ | intro (ops_ : Array Oper) ri_ | intro (b_ : Bool) hb_ | intro v_ h_ | intro (v_ : Value) | intro (b_ : Nat) | (refine ⟨fun hc => ?_, fun hc => ?_⟩ <;> try (exfalso; omega)) | refine ⟨?_, ?_⟩ | intro _ | skip)
  | (refine Is_DQ ?_; first | (apply DQ_k rfl rfl rfl; intro mm) | (apply DQ_x rfl rfl rfl; intro mm)))
        refine ret_ rfl (by repeat (first | exact ResAll.nil | (apply ResAll.cons; first | exact .tmp rfl | exact .cell rfl rfl | exact .one rfl))) fun w' h' => ?_
        exact .mk (M := fun q => [row q 3 out]) q trivial rfl h'
  · rw [expE, if_pos hlen] at hr
    subst hr
    refine enter (N := 84) (args := [.agg #[v, u]]) Try.func13 rfl rfl rfl (St.refl w) ?_
    repeat' (first
  | refine G_nilC ?_
  | refine G_nilN ?_
  | refine G_nilH ?_
  | (refine G_nil ?_; try clear ri_; try clear ops_)
  | (refine V_op ?_; first | exact True.intro | intro v_ h_ w_ r_ t_ | intro (ops_ : Array Oper) ri_ | intro (b_ : Bool) hb_ | intro v_ h_ | intro (v_ : Value) | intro (b_ : Nat) | (refine ⟨fun hc => ?_, fun hc => ?_⟩ <;> try (exfalso; omega)) | refine ⟨?_, ?_⟩ | intro _ | skip)
  | (refine Is_DQ ?_; first | (apply DQ_k rfl rfl rfl; intro mm) | (apply DQ_x rfl rfl rfl; intro mm)))
    refine ret_ rfl (by repeat (first | exact ResAll.nil | (apply ResAll.cons; first | exact .tmp rfl | exact .cell rfl rfl | exact .one rfl))) fun w' h' => ?_
    exact .mk (M := fun q => [row q 3 ([] : List Int)]) (.slice none 0 0) trivial rfl h'
instance {w0 : World} {O : List Nat} {m : List As} {v u : Value} {vs ls : List Int} [h : RdR w0 O m v vs] [h' : RdR w0 O m u ls] {r : Except Int (List Int)} [hr : Eqn (expE vs ls) r] : CallR Try.prog w0 O m 13 [.agg #[v, u]] (vs.length ≤ 100000 ∧ ls.length ≤ 100000) (fun _ : Value => True) (fun q => expA q r) (fun q => row q 3 (expL r) :: m) :=
  .new1 (M := fun q => row q _ (expL r)) fun hs w hw => @ref_Expand w v u vs ls (RdOld.of (h.rd w hw)) (RdOld.of (h'.rd w hw)) hs.1 hs.2 r hr.eq
section
variable {w0 : World} {O : List Nat} {m : List As} {v u : Value} {vs ls x : List Int} {e : Int}
instance (priority := high) [h : RdR w0 O m v vs] [h' : RdR w0 O m u ls] [hr : Eqn (expE vs ls) (.ok x)] : CallR Try.prog w0 O m 31 [v, u] (vs.length ≤ 100000 ∧ ls.length ≤ 100000) (fun _ : Value => True) (fun q => .tuple #[q, I 0]) (fun q => row q 3 x :: m) :=
  .new1 (M := fun q => row q _ x) fun hs w hw => @run_Expand w v u vs ls (RdOld.of (h.rd w hw)) (RdOld.of (h'.rd w hw)) hs.1 hs.2 _ hr.eq
instance (priority := high) [h : RdR w0 O m v vs] [h' : RdR w0 O m u ls] [hr : Eqn (expE vs ls) (.error e)] : CallR Try.prog w0 O m 31 [v, u] (vs.length ≤ 100000 ∧ ls.length ≤ 100000) (fun _ : Value => True) (fun _ => .tuple #[.slice none 0 0, I e]) (fun q => row q 3 ([] : List Int) :: m) :=
  .new1 (M := fun q => row q _ []) fun hs w hw => @run_Expand w v u vs ls (RdOld.of (h.rd w hw)) (RdOld.of (h'.rd w hw)) hs.1 hs.2 _ hr.eq
instance (priority := high) [h : RdR w0 O m v vs] [h' : RdR w0 O m u ls] [hr : Eqn (expE vs ls) (.ok x)] : CallR Try.prog w0 O m 13 [.agg #[v, u]] (vs.length ≤ 100000 ∧ ls.length ≤ 100000) (fun _ : Value => True) (fun q => .agg #[q, I 0]) (fun q => row q 3 x :: m) :=
  .new1 (M := fun q => row q _ x) fun hs w hw => @ref_Expand w v u vs ls (RdOld.of (h.rd w hw)) (RdOld.of (h'.rd w hw)) hs.1 hs.2 _ hr.eq
instance (priority := high) [h : RdR w0 O m v vs] [h' : RdR w0 O m u ls] [hr : Eqn (expE vs ls) (.error e)] : CallR Try.prog w0 O m 13 [.agg #[v, u]] (vs.length ≤ 100000 ∧ ls.length ≤ 100000) (fun _ : Value => True) (fun _ => .agg #[.slice none 0 0, I e]) (fun q => row q 3 ([] : List Int) :: m) :=
  .new1 (M := fun q => row q _ []) fun hs w hw => @ref_Expand w v u vs ls (RdOld.of (h.rd w hw)) (RdOld.of (h'.rd w hw)) hs.1 hs.2 _ hr.eq
end
end Go.Proofs.Ytaegfjolemehaaa
