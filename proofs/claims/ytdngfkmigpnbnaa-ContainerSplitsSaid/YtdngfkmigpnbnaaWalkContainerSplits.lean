/- The walk of ContainerSplits. -/
import Derived.Test.YtdngfkmigpnbnaaCnl
set_option linter.unusedVariables false
set_option linter.unusedSimpArgs false
set_option maxRecDepth 100000
set_option maxHeartbeats 4000000
namespace Go.Proofs.Ytdngfkmigpnbnaa
open Go.RowKit
attribute [local irreducible] G GC At wpL DR XPost CPost Cut GA GAR GAX GAt NxA GH GHR NxH
attribute [local irreducible] fiB opB spB sumB packB

/-- a row's file -/
def mdR (x : chapmanref09_Raw) : Fl := ⟨1 + (x.Kind.toNat : Int) % 9, x.Id.l.take 40, x.Data.l.take 200⟩
theorem mdR_ok {x : chapmanref09_Raw} (h : okI x.Id.l) : OkF (mdR x) := mdF_ok (k := x.Kind) (b := x.Data.l) h
/-- the bytes of the first k -/
def flB (xs : List chapmanref09_Raw) (k : Nat) : List (BitVec 8) := ((xs.take k).map mdR).flatMap seB
theorem flB_succ {xs : List chapmanref09_Raw} {k : Nat} (h : k < xs.length) : flB xs (k + 1) = flB xs k ++ seB (mdR xs[k]) := by
  simp only [flB, List.take_succ_eq_append_getElem h, List.map_append, List.flatMap_append, List.map_cons, List.map_nil, List.flatMap_cons, List.flatMap_nil, List.append_nil]
theorem flB_zero (xs : List chapmanref09_Raw) : (flB xs 0).length = 0 := by simp [flB]
def enL (xs : List chapmanref09_Raw) (k : Nat) : List Int := (List.range k).map fun i => ((flB xs (i + 1)).length : Int)
theorem enL_succ (xs : List chapmanref09_Raw) (k : Nat) : enL xs k ++ [((flB xs (k + 1)).length : Int)] = enL xs (k + 1) := by simp [enL, List.range_succ]
theorem enL_length (xs : List chapmanref09_Raw) (k : Nat) : (enL xs k).length = k := by simp [enL]
theorem enL_get {xs : List chapmanref09_Raw} {k i : Nat} (h : i < (enL xs k).length) : (enL xs k)[i] = (flB xs (i + 1)).length := by simp [enL]
def okX (xs : List chapmanref09_Raw) : Prop := ∀ x ∈ xs, okI x.Id.l
theorem flB_le {xs : List chapmanref09_Raw} (h : okX xs) : ∀ k, k ≤ xs.length → (flB xs k).length ≤ 34000 * k
  | 0, _ => by simp [flB]
  | k + 1, hk => by
    rw [flB_succ (by omega), List.length_append]
    have h1 := flB_le h k (by omega)
    have h2 : (seB (mdR xs[k])).length ≤ 34000 := seB_le2 (k := xs[k].Kind) (b := xs[k].Data.l) (h _ (List.getElem_mem _))
    omega
theorem sp_all {xs : List chapmanref09_Raw} (h : okX xs) (k : Nat) : spB (flB xs k) = ((xs.take k).map mdR, []) := by
  have h1 := sp_app ((xs.take k).map mdR) [] (by
    intro f hf
    obtain ⟨x, hx, rfl⟩ := List.mem_map.1 hf
    exact mdR_ok (h x (List.mem_of_mem_take hx)))
  rw [List.append_nil, sp_err fi_nil] at h1
  simpa [flB] using h1
/-- .. of which a beginning is taken -/
theorem sp_part {xs : List chapmanref09_Raw} (h : okX xs) {n j c : Nat} (hn : n ≤ xs.length) (hj : j ≤ n) (h1 : (flB xs j).length ≤ c) (h2 : c ≤ (flB xs n).length) (h3 : j < n → c < (flB xs (j + 1)).length) :
    spB ((flB xs n).take c) = ((xs.take j).map mdR, ((flB xs n).drop (flB xs j).length).take (c - (flB xs j).length)) := by
  have hsplit : flB xs n = flB xs j ++ (((xs.take n).drop j).map mdR).flatMap seB := by
    simp only [flB]
    rw [← List.flatMap_append, ← List.map_append]
    congr 2
    have : (xs.take n).take j = xs.take j := by rw [List.take_take, Nat.min_eq_left hj]
    rw [← this, List.take_append_drop]
  have hd : (flB xs n).drop (flB xs j).length = (((xs.take n).drop j).map mdR).flatMap seB := by rw [hsplit, List.drop_left]
  have ht : (flB xs n).take c = flB xs j ++ ((flB xs n).drop (flB xs j).length).take (c - (flB xs j).length) := by
    rw [hd, hsplit]
    conv => lhs; rw [show c = (flB xs j).length + (c - (flB xs j).length) by omega, List.take_length_add_append]
  have he : ∃ e, fiB (((flB xs n).drop (flB xs j).length).take (c - (flB xs j).length)) = .error e := by
    by_cases hjn : j < n
    · have h4 := h3 hjn
      rw [flB_succ (by omega), List.length_append] at h4
      have e1 : (xs.take n).drop j = xs[j]'(by omega) :: (xs.take n).drop (j + 1) := by
        rw [List.drop_eq_getElem_cons (by rw [List.length_take]; omega)]
        simp
      refine ⟨7, ?_⟩
      rw [hd, e1, List.map_cons, List.flatMap_cons, List.take_append_of_le_length (by omega)]
      exact fi_short (mdR_ok (h _ (List.getElem_mem _))) (by omega)
    · obtain rfl : j = n := by omega
      refine ⟨7, ?_⟩
      rw [show c - (flB xs j).length = 0 by omega, List.take_zero]
      exact fi_nil
  obtain ⟨e, he⟩ := he
  rw [ht]
  have h5 := sp_app ((xs.take j).map mdR) (((flB xs n).drop (flB xs j).length).take (c - (flB xs j).length)) (by
    intro f hf
    obtain ⟨x, hx, rfl⟩ := List.mem_map.1 hf
    exact mdR_ok (h x (List.mem_of_mem_take hx)))
  rw [sp_err he] at h5
  simpa [flB] using h5
attribute [local irreducible] seB flB enL
theorem walk_ContainerSplits (w : World) (a0 : Sl chapmanref09_Raw) (g0 : Rng.rng a0) [t0 : Tru w [] a0] (c : BitVec 16) (g1 : Rng.rng c) [t1 : Tru w [] c] :
    Calls Try.prog 7 #[a0.v, .int .u16 (c.toNat : Int)] w (Is w (.bool true)) := by
  obtain ⟨v0, xs, o0⟩ := a0
  haveI h : RdOld w [] v0 xs := rdOld_tru (x := ⟨v0, xs, o0⟩)
  haveI ht : TruL w [] xs := truL_tru (x := ⟨v0, xs, o0⟩)
  haveI : One v0 := ⟨o0⟩
  have hok : okX xs := fun x hx => (g0 x hx).2.1
  have hlen := h.rd.len_le
  clear g0 g1 t0 t1
  show Calls Try.prog 7 #[v0, .int .u16 (c.toNat : Int)] w (Is w (.bool true))
  refine enter (N := 112) (args := [v0, .int .u16 (c.toNat : Int)]) Try.func7 rfl rfl rfl (St.refl w) ?_
  repeat' (first
  | refine G_nilC ?_
  | refine G_nilN ?_
  | refine G_nilH ?_
  | (refine G_nil ?_; try clear ri_; try clear ops_)
  | (refine V_op ?_; first | exact True.intro | (intro v_ h_ w_ r_ t_; try (obtain ⟨ta_, tb_⟩ := (t_ : _ ∧ _)); try (obtain ⟨tb_, tc_⟩ := (tb_ : _ ∧ _)); try (obtain ⟨tc_, td_⟩ := (tc_ : _ ∧ _)); try (obtain ⟨td_, te_⟩ := (td_ : _ ∧ _))) | intro (ops_ : Array Oper) ri_ | intro (b_ : Bool) hb_ | (intro v_ h_; try (have o_ := FrzK.one h_)) | intro (v_ : Value) | intro (b_ : Nat) | (refine ⟨fun hc => ?_, fun hc => ?_⟩ <;> try (exfalso; omega)) | refine ⟨?_, ?_⟩ | intro _ | skip)
  | (refine Is_DQ ?_; first | (apply DQ_m rfl rfl rfl rfl; focus (intro wq_ Oq_ rq_ mm; (repeat (first | (refine G_nil ?_; exact X_done rfl (List.Sublist.refl _)) | refine V_op ?_)); done)) | (apply DQ_k rfl rfl rfl rfl; intro wq_ Oq_ rq_ mm) | (apply DQ_y rfl rfl rfl rfl; intro wq_ Oq_ rq_ mm)))
  refine GC_loopS (X := Nat × Value × Value × Value × List api_File) (fun y => y.1 ≤ xs.length ∧ y.1 ≤ 6 ∧ TruL w [] y.2.2.2.2 ∧ y.2.2.2.2.map den = (xs.take y.1).map mdR) (fun y s => (9, I y.1) :: (6, y.2.1) :: (7, y.2.2.1) :: (8, y.2.2.2.1) :: s)
    (fun y q => row y.2.1 5 (flB xs y.1) :: row y.2.2.1 3 (enL xs y.1) :: row y.2.2.2.1 25 y.2.2.2.2 :: q) (fun y => 6 - y.1) (0, _, _, _, []) ⟨by simp, by simp, inferInstance, by simp⟩ (by repeat (first | exact trivial | refine And.intro rfl ?_)) ?_ (want := [row _ 5 ([] : List (BitVec 8)), row _ 3 ([] : List Int), row _ 25 ([] : List api_File)]) (hm0 := by unfold flB enL; rfl)
  rintro ⟨k, bv, ev, fv, fl⟩ ⟨hk, hk6, hft, hfd⟩
  simp only at hk hk6 hft hfd ⊢
  have hfl : fl.length = k := by
    have := congrArg List.length hfd
    simp only [List.length_map, List.length_take] at this
    omega
  have hen := enL_length xs k
  have hbl := flB_le hok k hk
  by_cases hlt : k < xs.length ∧ k < 6
  · have hxk := hok _ (List.getElem_mem hlt.1)
    have hse := se_ok (mdR_ok hxk)
    have hot := ok_take hxk
    have hle : (seB (mdR (xs[k]'hlt.1))).length ≤ 34000 := seB_le2 (k := (xs[k]'hlt.1).Kind) (b := (xs[k]'hlt.1).Data.l) hxk
    have hnx := flB_succ (xs := xs) hlt.1
    have hbl1 := flB_le hok (k + 1) (by omega)
    have hdx : fl.map den ++ [mdR (xs[k]'hlt.1)] = (xs.take (k + 1)).map mdR := by
      rw [hfd, List.take_succ_eq_append_getElem hlt.1, List.map_append]; rfl
    simp only [mdR] at hse hle hnx
    generalize hB : seB ⟨1 + ((xs[k]'hlt.1).Kind.toNat : Int) % 9, (xs[k]'hlt.1).Id.l.take 40, (xs[k]'hlt.1).Data.l.take 200⟩ = B at *
    haveI : Eqn (seE ⟨1 + ((xs[k]'hlt.1).Kind.toNat : Int) % 9, (xs[k]'hlt.1).Id.l.take 40, (xs[k]'hlt.1).Data.l.take 200⟩) 0 := ⟨hse.1⟩
    haveI : Eqn (seR ⟨1 + ((xs[k]'hlt.1).Kind.toNat : Int) % 9, (xs[k]'hlt.1).Id.l.take 40, (xs[k]'hlt.1).Data.l.take 200⟩) B := ⟨hse.2⟩
    haveI : AppN (flB xs k) B (flB xs (k + 1)) := ⟨hnx.symm⟩
    haveI : AppN (enL xs k) [((flB xs (k + 1)).length : Int)] (enL xs (k + 1)) := ⟨enL_succ xs k⟩
    clear hse hB hnx
    repeat' (first
  | refine G_nilC ?_
  | refine G_nilN ?_
  | refine G_nilH ?_
  | (refine G_nil ?_; try clear ri_; try clear ops_)
  | (refine V_op ?_; first | exact True.intro | (intro v_ h_ w_ r_ t_; try (obtain ⟨ta_, tb_⟩ := (t_ : _ ∧ _)); try (obtain ⟨tb_, tc_⟩ := (tb_ : _ ∧ _)); try (obtain ⟨tc_, td_⟩ := (tc_ : _ ∧ _)); try (obtain ⟨td_, te_⟩ := (td_ : _ ∧ _))) | intro (ops_ : Array Oper) ri_ | intro (b_ : Bool) hb_ | (intro v_ h_; try (have o_ := FrzK.one h_)) | intro (v_ : Value) | intro (b_ : Nat) | (refine ⟨fun hc => ?_, fun hc => ?_⟩ <;> try (exfalso; omega)) | refine ⟨?_, ?_⟩ | intro _ | skip)
  | (refine Is_DQ ?_; first | (apply DQ_m rfl rfl rfl rfl; focus (intro wq_ Oq_ rq_ mm; (repeat (first | (refine G_nil ?_; exact X_done rfl (List.Sublist.refl _)) | refine V_op ?_)); done)) | (apply DQ_k rfl rfl rfl rfl; intro wq_ Oq_ rq_ mm) | (apply DQ_y rfl rfl rfl rfl; intro wq_ Oq_ rq_ mm)))
    rename_i pv _ _ b3 _ f4 _
    exact At_roundS (k + 1, b3, v_, f4, fl ++ [⟨1 + ((xs[k]'hlt.1).Kind.toNat : Int) % 9, slOf pv.1.v ((xs[k]'hlt.1).Id.l.take 40), slOf pv.2.v ((xs[k]'hlt.1).Data.l.take 200)⟩]) ⟨by omega, by omega, inferInstance, by rw [← hdx, List.map_append]; rfl⟩ (by simp only; omega) (by repeat (first | exact trivial | refine And.intro rfl ?_)) (by repeat (first | exact trivial | refine And.intro rfl ?_))
  · have hkn : k = min xs.length 6 := by omega
    haveI : Eqn (spB (flB xs k)) ((xs.take k).map mdR, []) := ⟨sp_all hok k⟩
    haveI : DenF fl ((xs.take k).map mdR) := ⟨hfd⟩
    haveI : SmF ((xs.take k).map mdR) := ⟨by
      intro g hg
      obtain ⟨x, _, rfl⟩ := List.mem_map.1 hg
      simp only [mdR, List.length_take]; omega⟩
    obtain ⟨cn, hcn, hcl⟩ : ∃ cn : Nat, ((c.toNat : Int) % (((flB xs k).length : Int) + 1)) = (cn : Int) ∧ cn ≤ (flB xs k).length :=
      ⟨c.toNat % ((flB xs k).length + 1), by rw [Int.natCast_emod]; rfl, Nat.lt_succ_iff.1 (Nat.mod_lt _ (Nat.succ_pos _))⟩
    have hz := flB_zero xs
    clear hlt
    repeat' (first
  | refine G_nilC ?_
  | refine G_nilN ?_
  | refine G_nilH ?_
  | (refine G_nil ?_; try clear ri_; try clear ops_)
  | (refine V_op ?_; first | exact True.intro | (intro v_ h_ w_ r_ t_; try (obtain ⟨ta_, tb_⟩ := (t_ : _ ∧ _)); try (obtain ⟨tb_, tc_⟩ := (tb_ : _ ∧ _)); try (obtain ⟨tc_, td_⟩ := (tc_ : _ ∧ _)); try (obtain ⟨td_, te_⟩ := (td_ : _ ∧ _))) | intro (ops_ : Array Oper) ri_ | intro (b_ : Bool) hb_ | (intro v_ h_; try (have o_ := FrzK.one h_)) | intro (v_ : Value) | intro (b_ : Nat) | (refine ⟨fun hc => ?_, fun hc => ?_⟩ <;> try (exfalso; omega)) | refine ⟨?_, ?_⟩ | intro _ | skip)
  | (refine Is_DQ ?_; first | (apply DQ_m rfl rfl rfl rfl; focus (intro wq_ Oq_ rq_ mm; (repeat (first | (refine G_nil ?_; exact X_done rfl (List.Sublist.refl _)) | refine V_op ?_)); done)) | (apply DQ_k rfl rfl rfl rfl; intro wq_ Oq_ rq_ mm) | (apply DQ_y rfl rfl rfl rfl; intro wq_ Oq_ rq_ mm)))
    all_goals
      rw [hcn]
      refine GC_loopS (X := Nat × Nat × Int) (fun y => y.1 ≤ k ∧ y.2.1 ≤ y.1 ∧ y.2.2 = ((flB xs y.2.1).length : Int) ∧ y.2.2 ≤ cn ∧ ∀ t, y.2.1 < t → t ≤ y.1 → cn < (flB xs t).length) (fun y s => (15, I y.1) :: (13, I y.2.1) :: (14, I y.2.2) :: s) (fun _ q => q) (fun y => k - y.1) (0, 0, 0) ⟨by simp, by simp, by simp only [hz]; rfl, by simp only; omega, fun t h1 h2 => by simp only at h1 h2; omega⟩ (by repeat (first | exact trivial | refine And.intro rfl ?_)) ?_
      rintro ⟨i, j, a⟩ ⟨hi, hj, ha, hac, hall⟩
      simp only at hi hj ha hac hall ⊢
      by_cases hik : i < k
      · have hge := enL_get (xs := xs) (k := k) (i := i) (by omega)
        by_cases hle2 : (flB xs (i + 1)).length ≤ cn
        · repeat' (first
  | refine G_nilC ?_
  | refine G_nilN ?_
  | refine G_nilH ?_
  | (refine G_nil ?_; try clear ri_; try clear ops_)
  | (refine V_op ?_; first | exact True.intro | (intro v_ h_ w_ r_ t_; try (obtain ⟨ta_, tb_⟩ := (t_ : _ ∧ _)); try (obtain ⟨tb_, tc_⟩ := (tb_ : _ ∧ _)); try (obtain ⟨tc_, td_⟩ := (tc_ : _ ∧ _)); try (obtain ⟨td_, te_⟩ := (td_ : _ ∧ _))) | intro (ops_ : Array Oper) ri_ | intro (b_ : Bool) hb_ | (intro v_ h_; try (have o_ := FrzK.one h_)) | intro (v_ : Value) | intro (b_ : Nat) | (refine ⟨fun hc => ?_, fun hc => ?_⟩ <;> try (exfalso; omega)) | refine ⟨?_, ?_⟩ | intro _ | skip)
  | (refine Is_DQ ?_; first | (apply DQ_m rfl rfl rfl rfl; focus (intro wq_ Oq_ rq_ mm; (repeat (first | (refine G_nil ?_; exact X_done rfl (List.Sublist.refl _)) | refine V_op ?_)); done)) | (apply DQ_k rfl rfl rfl rfl; intro wq_ Oq_ rq_ mm) | (apply DQ_y rfl rfl rfl rfl; intro wq_ Oq_ rq_ mm)))
          exact At_roundS (i + 1, i + 1, (enL xs k)[i]'(by omega)) ⟨by simp only; omega, by simp, hge, by simp only; omega, fun t h1 h2 => by simp only at h1 h2; omega⟩ (by simp only; omega) (by repeat (first | exact trivial | refine And.intro rfl ?_)) (by repeat (first | exact trivial | refine And.intro rfl ?_))
        · repeat' (first
  | refine G_nilC ?_
  | refine G_nilN ?_
  | refine G_nilH ?_
  | (refine G_nil ?_; try clear ri_; try clear ops_)
  | (refine V_op ?_; first | exact True.intro | (intro v_ h_ w_ r_ t_; try (obtain ⟨ta_, tb_⟩ := (t_ : _ ∧ _)); try (obtain ⟨tb_, tc_⟩ := (tb_ : _ ∧ _)); try (obtain ⟨tc_, td_⟩ := (tc_ : _ ∧ _)); try (obtain ⟨td_, te_⟩ := (td_ : _ ∧ _))) | intro (ops_ : Array Oper) ri_ | intro (b_ : Bool) hb_ | (intro v_ h_; try (have o_ := FrzK.one h_)) | intro (v_ : Value) | intro (b_ : Nat) | (refine ⟨fun hc => ?_, fun hc => ?_⟩ <;> try (exfalso; omega)) | refine ⟨?_, ?_⟩ | intro _ | skip)
  | (refine Is_DQ ?_; first | (apply DQ_m rfl rfl rfl rfl; focus (intro wq_ Oq_ rq_ mm; (repeat (first | (refine G_nil ?_; exact X_done rfl (List.Sublist.refl _)) | refine V_op ?_)); done)) | (apply DQ_k rfl rfl rfl rfl; intro wq_ Oq_ rq_ mm) | (apply DQ_y rfl rfl rfl rfl; intro wq_ Oq_ rq_ mm)))
          exact At_roundS (i + 1, j, a) ⟨by simp only; omega, by simp only; omega, ha, hac, fun t h1 h2 => by
            simp only at h1 h2
            by_cases ht : t ≤ i
            · exact hall t h1 ht
            · obtain rfl : t = i + 1 := by omega
              omega⟩ (by simp only; omega) (by repeat (first | exact trivial | refine And.intro rfl ?_)) (by repeat (first | exact trivial | refine And.intro rfl ?_))
      · obtain rfl : i = k := by omega
        subst ha
        have hpart := sp_part hok (n := i) (j := j) (c := cn) hk hj (by omega) hcl (fun h => hall (j + 1) (by omega) (by omega))
        haveI : Eqn (spB (((flB xs i).drop 0).take (cn - 0))) ((xs.take j).map mdR, ((flB xs i).drop (flB xs j).length).take (cn - (flB xs j).length)) := ⟨by rw [List.drop_zero, Nat.sub_zero]; exact hpart⟩
        haveI : DenF ((fl.drop 0).take (j - 0)) ((xs.take j).map mdR) := ⟨by
          rw [List.drop_zero, Nat.sub_zero, List.map_take, hfd, ← List.map_take, List.take_take, Nat.min_eq_left hj]⟩
        haveI : SmF ((xs.take j).map mdR) := ⟨by
          intro g hg
          obtain ⟨x, _, rfl⟩ := List.mem_map.1 hg
          simp only [mdR, List.length_take]; omega⟩
        have hcut : (((flB xs i).drop 0).take (cn - 0)).length ≤ 900000 := by
          simp only [List.length_take, List.length_drop]; omega
        haveI : Fct (0 ≤ j ∧ j ≤ fl.length) := ⟨by omega⟩
        haveI : Fct ((flB xs j).length ≤ cn ∧ cn ≤ (flB xs i).length) := ⟨by omega⟩
        clear hpart hall
        repeat' (first
  | refine G_nilC ?_
  | refine G_nilN ?_
  | refine G_nilH ?_
  | (refine G_nil ?_; try clear ri_; try clear ops_)
  | (refine V_op ?_; first | exact True.intro | (intro v_ h_ w_ r_ t_; try (obtain ⟨ta_, tb_⟩ := (t_ : _ ∧ _)); try (obtain ⟨tb_, tc_⟩ := (tb_ : _ ∧ _)); try (obtain ⟨tc_, td_⟩ := (tc_ : _ ∧ _)); try (obtain ⟨td_, te_⟩ := (td_ : _ ∧ _))) | intro (ops_ : Array Oper) ri_ | intro (b_ : Bool) hb_ | (intro v_ h_; try (have o_ := FrzK.one h_)) | intro (v_ : Value) | intro (b_ : Nat) | (refine ⟨fun hc => ?_, fun hc => ?_⟩ <;> try (exfalso; omega)) | refine ⟨?_, ?_⟩ | intro _ | skip)
  | (refine Is_DQ ?_; first | (apply DQ_m rfl rfl rfl rfl; focus (intro wq_ Oq_ rq_ mm; (repeat (first | (refine G_nil ?_; exact X_done rfl (List.Sublist.refl _)) | refine V_op ?_)); done)) | (apply DQ_k rfl rfl rfl rfl; intro wq_ Oq_ rq_ mm) | (apply DQ_y rfl rfl rfl rfl; intro wq_ Oq_ rq_ mm)))
        refine ret_ rfl (by repeat (first | exact ResAll.nil | (apply ResAll.cons; first | exact .tmp rfl | exact .cell rfl rfl | exact .one rfl))) fun w' h' => ?_
        exact .mkB rfl h'
end Go.Proofs.Ytdngfkmigpnbnaa
