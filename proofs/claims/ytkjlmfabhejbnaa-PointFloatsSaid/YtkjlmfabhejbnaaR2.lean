/-
  Chapter 1: floats, as the document tells them. No condition beyond those that each theorem names.
-/
import Derived.Test.YtkjlmfabhejbnaaP7
import Derived.Test.YtkjlmfabhejbnaaLLeasts
set_option linter.all false
namespace Go.Abs
set_option maxRecDepth 10000
set_option maxHeartbeats 4000000

theorem Length_ok (l : List Bool) (i : Nat) (hi : i < l.length) (hl : l.length ≤ 1000) : lim F 63 [ringV l, iv (i : Int)] = some (iv ((lengthT l i : Nat) : Int), []) := by
  have g1 := ring_at hi
  have g2 := ring_get (l := l) (i := i + l.length - 1) (by omega)
  have e : Int.tmod ((i : Int) + l.length - 1) (l.length : Int) = (((i + l.length - 1) % l.length : Nat) : Int) := by
    rw [show (i : Int) + l.length - 1 = ((i + l.length - 1 : Nat) : Int) by omega, Int.tmod_eq_emod_of_nonneg (Int.natCast_nonneg _)]; simp
  have hm := Nat.mod_lt (i + l.length - 1) (show 0 < l.length by omega)
  have hlen : (l.map fun b => AV.bool b).length = l.length := by simp
  have hA := fun (i : Nat) (hi : i < l.length) => ring_at hi
  have hG := fun (i : Nat) => ring_get (l := l) (i := i) (by omega)
  have hb : begs l i = (gb l i != gb l (i + l.length - 1)) := rfl
  have hend := endless_iff (l := l) (by omega)
  change anyTo l l.length = false ↔ _ at hend
  unfold ringV
  generalize l.map (fun b => AV.bool b) = es at *
  generalize (i + l.length - 1) % l.length = m at *
  cases hbe : begs l i with
  | true =>
    have hL := lenT_is hbe
    have hs := hL.same
    have ho := hL.other
    have hpos := hL.pos
    have hll : lengthT l i = lenT l i := by unfold lengthT; rw [hbe, if_pos rfl]
    have e0 : (gb l (i + l.length - 1) == gb l i) = false := by
      rw [hbe] at hb
      have : gb l i ≠ gb l (i + l.length - 1) := by simpa using hb.symm
      simpa using fun e => this e.symm
    rw [hll]
    have hlt := hL.lt
    generalize lenT l i = n at *
    refine lim_by (fn := a63) (k := 2) (res := [.tmp 4]) rfl rfl rfl (by simp -implicitDefEqProofs (maxSteps := 2000000) (disch := first | exact tt_rfl rfl | omega | (simp only [go_sem] <;> omega) | fail) only [go_sem]) ?_
    simp -implicitDefEqProofs (maxSteps := 2000000) (disch := first | exact tt_rfl rfl | omega | (simp only [go_sem] <;> omega) | fail) only [go_sem]
    repeat (first | apply Wp.seqA | apply Wp.skipS | apply Wp.blockS | ((first | apply Wp.regS | apply Wp.condV | apply Wp.reg | apply Wp.condW | apply fin_ret); simp -implicitDefEqProofs (maxSteps := 2000000) (disch := first | exact tt_rfl rfl | omega | (simp only [go_sem] <;> omega) | fail) only [go_sem, hlen, g1, g2, e, e0, Int.toNat_natCast, show (l.length : Int) ≠ 0 by omega] <;> try with_reducible rfl) | apply Wp.block | apply Wp.exitS | apply Wp.retS | apply Wp.exit | apply Wp.ret | apply Wp.skip)
    apply Wp.loopF (n - 1) (fun k => ⟨[(0, .list 1 es), (1, iv (i : Int)), (5, iv (l.length : Int)), (7, iv ((k + 1 : Nat) : Int))], [], [], 10000000⟩) (fun _ => True)
    · simp -implicitDefEqProofs (maxSteps := 2000000) (disch := first | exact tt_rfl rfl | omega | (simp only [go_sem] <;> omega) | fail) only [go_sem, norm_eq, Ok.some]
      rfl
    · trivial
    intro k hk _
    have hm2 := Nat.mod_lt (i + (k + 1)) (show 0 < l.length by omega)
    have g3 := hG (i + (k + 1))
    have e2 : Int.tmod ((i : Int) + ((k + 1 : Nat) : Int)) (l.length : Int) = (((i + (k + 1)) % l.length : Nat) : Int) := by
      rw [show (i : Int) + ((k + 1 : Nat) : Int) = ((i + (k + 1) : Nat) : Int) by omega, Int.tmod_eq_emod_of_nonneg (Int.natCast_nonneg _)]; simp
    generalize (i + (k + 1)) % l.length = m2 at *
    by_cases h : k < n - 1
    · have e3 : (gb l (i + (k + 1)) == gb l i) = true := by rw [hs (k + 1) (by omega)]; simp
      repeat (first | apply Wp.seqA | apply Wp.skipS | apply Wp.blockS | ((first | apply Wp.regS | apply Wp.condV | apply Wp.reg | apply Wp.condW | apply fin_ret); simp -implicitDefEqProofs (maxSteps := 2000000) (disch := first | exact tt_rfl rfl | omega | (simp only [go_sem] <;> omega) | fail) only [go_sem, hlen, g1, g3, e2, e3, Int.toNat_natCast, show (l.length : Int) ≠ 0 by omega] <;> try with_reducible rfl) | apply Wp.block | apply Wp.exitS | apply Wp.retS | apply Wp.exit | apply Wp.ret | apply Wp.skip)
      apply block_norm
      apply round_next
      · simp -implicitDefEqProofs (maxSteps := 2000000) (disch := first | exact tt_rfl rfl | omega | (simp only [go_sem] <;> omega) | fail) only [go_sem, norm_eq, Ok.some]; with_reducible rfl
      exact ⟨h, by simp, trivial⟩
    · obtain rfl : n = k + 1 := by omega
      have e3 : (gb l (i + (k + 1)) == gb l i) = false := beq_eq_false_iff_ne.2 ho
      repeat (first | apply Wp.seqA | apply Wp.skipS | apply Wp.blockS | ((first | apply Wp.regS | apply Wp.condV | apply Wp.reg | apply Wp.condW | apply fin_ret); simp -implicitDefEqProofs (maxSteps := 2000000) (disch := first | exact tt_rfl rfl | omega | (simp only [go_sem] <;> omega) | fail) only [go_sem, hlen, g1, g3, e2, e3, Int.toNat_natCast, show (l.length : Int) ≠ 0 by omega] <;> try with_reducible rfl) | apply Wp.block | apply Wp.exitS | apply Wp.retS | apply Wp.exit | apply Wp.ret | apply Wp.skip)
  | false =>
    have e0 : (gb l (i + l.length - 1) == gb l i) = true := by
      rw [hbe] at hb
      have : gb l i = gb l (i + l.length - 1) := by simpa using hb.symm
      rw [this]; simp
    have hll : lengthT l i = if anyTo l l.length then 0 else if i = 0 then 1000 else 0 := by unfold lengthT; rw [hbe, if_neg (by simp)]
    rw [hll]
    refine lim_by (fn := a63) (k := 2) (res := [.tmp 4]) rfl rfl rfl (by simp -implicitDefEqProofs (maxSteps := 2000000) (disch := first | exact tt_rfl rfl | omega | (simp only [go_sem] <;> omega) | fail) only [go_sem]) ?_
    simp -implicitDefEqProofs (maxSteps := 2000000) (disch := first | exact tt_rfl rfl | omega | (simp only [go_sem] <;> omega) | fail) only [go_sem]
    repeat (first | apply Wp.seqA | apply Wp.skipS | apply Wp.blockS | ((first | apply Wp.regS | apply Wp.condV | apply Wp.reg | apply Wp.condW | apply fin_ret); simp -implicitDefEqProofs (maxSteps := 2000000) (disch := first | exact tt_rfl rfl | omega | (simp only [go_sem] <;> omega) | fail) only [go_sem, hlen, g1, g2, e, e0, Int.toNat_natCast, show (l.length : Int) ≠ 0 by omega] <;> try with_reducible rfl) | apply Wp.block | apply Wp.exitS | apply Wp.retS | apply Wp.exit | apply Wp.ret | apply Wp.skip)
    apply Wp.loopF l.length (fun k => ⟨[(0, .list 1 es), (1, iv (i : Int)), (5, iv (l.length : Int)), (6, iv (k : Int))], [], [], 10000000⟩) (fun k => ∀ q, q < k → gb l q = gb l i)
    · simp -implicitDefEqProofs (maxSteps := 2000000) (disch := first | exact tt_rfl rfl | omega | (simp only [go_sem] <;> omega) | fail) only [go_sem, norm_eq, Ok.some]
      try rfl
    · intro q h; omega
    intro k hk hq
    by_cases h : k < l.length
    · have g3 := hA k h
      by_cases hx : gb l k = gb l i
      · repeat (first | apply Wp.seqA | apply Wp.skipS | apply Wp.blockS | ((first | apply Wp.regS | apply Wp.condV | apply Wp.reg | apply Wp.condW | apply fin_ret); simp -implicitDefEqProofs (maxSteps := 2000000) (disch := first | exact tt_rfl rfl | omega | (simp only [go_sem] <;> omega) | fail) only [go_sem, hlen, g1, g3, h, hx, Int.ofNat_lt, bne_self_eq_false, Int.toNat_natCast] <;> try with_reducible rfl) | apply Wp.block | apply Wp.exitS | apply Wp.retS | apply Wp.exit | apply Wp.ret | apply Wp.skip)
        apply round_next
        · simp -implicitDefEqProofs (maxSteps := 2000000) (disch := first | exact tt_rfl rfl | omega | (simp only [go_sem] <;> omega) | fail) only [go_sem, norm_eq, Ok.some]; with_reducible rfl
        refine ⟨h, by simp, fun q hq' => ?_⟩
        by_cases e : q = k
        · subst e; exact hx
        · exact hq q (by omega)
      · have hx' : (gb l k == gb l i) = false := beq_eq_false_iff_ne.2 hx
        have ha : anyTo l l.length = true := by
          cases ha : anyTo l l.length with
          | true => rfl
          | false => exact absurd (by rw [hend.1 ha k, hend.1 ha i]) hx
        repeat (first | apply Wp.seqA | apply Wp.skipS | apply Wp.blockS | ((first | apply Wp.regS | apply Wp.condV | apply Wp.reg | apply Wp.condW | apply fin_ret); simp -implicitDefEqProofs (maxSteps := 2000000) (disch := first | exact tt_rfl rfl | omega | (simp only [go_sem] <;> omega) | fail) only [go_sem, hlen, g1, g3, h, hx', Int.ofNat_lt, show (false != true) = true from rfl, Int.toNat_natCast] <;> try with_reducible rfl) | apply Wp.block | apply Wp.exitS | apply Wp.retS | apply Wp.exit | apply Wp.ret | apply Wp.skip)
        rw [ha, if_pos rfl]
        rfl
    · have ha : anyTo l l.length = false := hend.2 fun j => by
        rw [← gb_mod l j, hq _ (by have := Nat.mod_lt j (show 0 < l.length by omega); omega), hq 0 (by omega)]
      rw [ha, if_neg (by simp)]
      by_cases h0 : i = 0
      · subst h0
        repeat (first | apply Wp.seqA | apply Wp.skipS | apply Wp.blockS | ((first | apply Wp.regS | apply Wp.condV | apply Wp.reg | apply Wp.condW | apply fin_ret); simp -implicitDefEqProofs (maxSteps := 2000000) (disch := first | exact tt_rfl rfl | omega | (simp only [go_sem] <;> omega) | fail) only [go_sem, h, Int.ofNat_lt] <;> try with_reducible rfl) | apply Wp.block | apply Wp.exitS | apply Wp.retS | apply Wp.exit | apply Wp.ret | apply Wp.skip)
        try rfl
      · rw [if_neg h0]
        repeat (first | apply Wp.seqA | apply Wp.skipS | apply Wp.blockS | ((first | apply Wp.regS | apply Wp.condV | apply Wp.reg | apply Wp.condW | apply fin_ret); simp -implicitDefEqProofs (maxSteps := 2000000) (disch := first | exact tt_rfl rfl | omega | (simp only [go_sem] <;> omega) | fail) only [go_sem, h, Int.ofNat_lt, show ¬ (i : Int) = 0 by omega] <;> try with_reducible rfl) | apply Wp.block | apply Wp.exitS | apply Wp.retS | apply Wp.exit | apply Wp.ret | apply Wp.skip)
        try rfl

/-- the floats above a bound of the first so many rings, and of a part of the next one -/
def refF (R : Nat → List Bool) (mk : Nat → RunT → FloatT) (b : Int) (i : Nat) : List AV := ((List.range i).flatMap fun i => (refTo (R i) b (R i).length).map (mk i)).map FloatT.av
theorem refF_succ (R : Nat → List Bool) (mk : Nat → RunT → FloatT) (b : Int) (i : Nat) : refF R mk b (i + 1) = refF R mk b i ++ ((refTo (R i) b (R i).length).map (mk i)).map FloatT.av := by
  unfold refF; rw [List.range_succ, List.flatMap_append, List.map_append]; simp
theorem refF_eq {R : Nat → List Bool} {mk : Nat → RunT → FloatT} (hR : ∀ i, 0 < (R i).length) (hmk : ∀ i x, (mk i x).len = x.len) (b : Int) (n : Nat) : refF R mk b n = ((flTo R mk n).filter fun f => decide (b < f.len)).map FloatT.av := by
  unfold refF flTo
  congr 1
  induction n with
  | zero => rfl
  | succ n ih =>
    rw [List.range_succ, List.flatMap_append, List.flatMap_append, List.filter_append, ih]
    congr 1
    simp only [List.flatMap_cons, List.flatMap_nil, List.append_nil]
    rw [refTo_eq (hR n), List.filter_map]
    congr 1
    apply List.filter_congr
    intro x _
    simp only [Function.comp, hmk]
theorem refF_len {R : Nat → List Bool} {mk : Nat → RunT → FloatT} (hR : ∀ i, (R i).length ≤ 1000) (b : Int) (n : Nat) : (refF R mk b n).length ≤ n * 1000 := by
  induction n with
  | zero => simp [refF]
  | succ n ih =>
    rw [refF_succ, List.length_append, List.length_map, List.length_map]
    have : (refTo (R n) b (R n).length).length ≤ 1000 := by
      unfold refTo
      rw [List.length_map]
      refine Nat.le_trans (List.length_filter_le _ _) ?_
      rw [List.length_range]; exact hR n
    omega

def ringOf (warp : Bool) (d : DesN) : Nat → List Bool := if warp then hookR d else pickR d
theorem refFloats_weft (d : DesN) (hd : d.Ok) (b : Int) : lim F 24 [d.av, .bool false, iv b] = some (.own 4 (((weftF d).filter fun f => decide (b < f.len)).map FloatT.av), []) := by
  have h60 := hd.r60
  have h24 := hd.h24
  have h1 := hd.h1
  have hr1 := hd.r1
  have hT := Table_ok d hd
  have hO := Over_ok (tabN d d.rows.length) d.hk (by rw [tabN_len]; omega) (tabN_all d) (by rw [tabN_len]; omega) (by omega)
  have hpos := pickR_pos hd
  have eF := refF_eq (R := pickR d) (mk := floatW) (fun i => (hpos i).1) (fun _ _ => rfl) b d.rows.length
  change _ = ((weftF d).filter _).map _ at eF
  rw [← eF]
  clear eF
  have hg : ∀ i, i < d.rows.length → (tabV (tabN d d.rows.length))[i]? = some (ringV (pickR d i)) := fun i hi => by
    have h := tabN_get d hi
    have hl : i < (tabN d d.rows.length).length := by simp [tabN, overT]; omega
    unfold tabV
    rw [List.getD_eq_getElem?_getD, List.getElem?_eq_getElem hl] at h
    rw [List.getElem?_map, List.getElem?_eq_getElem hl, ← h]; rfl
  have hlT : (tabV (tabN d d.rows.length)).length = d.rows.length := by simp [tabV, tabN]
  have hlO : (tabV (overT (tabN d d.rows.length) d.hk)).length = d.hk := by simp [tabV, overT]
  have hln : ∀ i, (pickR d i).length = d.hk := pickR_len d
  have hfl : ∀ i, (refF (pickR d) floatW b i).length ≤ i * 1000 := refF_len (fun i => (hpos i).2) b
  unfold DesN.av at *
  generalize tabV (tabN d d.rows.length) = t1 at *
  generalize tabV (overT (tabN d d.rows.length) d.hk) = t2 at *
  generalize d.rows.map (fun n : Nat => iv (n : Int)) = rs at *
  generalize hN : d.rows.length = N at *
  generalize hH : d.hk = H at *
  have etk : t1.take N = t1 := List.take_of_length_le (by omega)
  refine lim_by (fn := a24) (k := 3) (res := [.tmp 6]) rfl rfl rfl (by simp -implicitDefEqProofs (maxSteps := 2000000) (disch := first | exact tt_rfl rfl | omega | (simp only [go_sem] <;> omega) | fail) only [go_sem]) ?_
  simp -implicitDefEqProofs (maxSteps := 2000000) (disch := first | exact tt_rfl rfl | omega | (simp only [go_sem] <;> omega) | fail) only [go_sem]
  repeat (first | apply Wp.seqA | apply Wp.skipS | apply Wp.blockS | ((first | apply Wp.regS | apply Wp.condV | apply Wp.reg | apply Wp.condW | apply fin_ret); simp -implicitDefEqProofs (maxSteps := 2000000) (disch := first | exact tt_rfl rfl | omega | (simp only [go_sem] <;> omega) | fail) only [go_sem, hT, hO, hlT, hlO, etk, ite_self] <;> try with_reducible rfl) | apply Wp.block | apply Wp.exitS | apply Wp.retS | apply Wp.exit | apply Wp.ret | apply Wp.skip)
  apply Wp.loopF N (fun i => ⟨[(1, .bool false), (2, iv b), (7, .slice 448 0 (refF (pickR d) floatW b i).length), (8, .slice 512 0 N), (9, iv (i : Int))], [(448, .arr 4 (refF (pickR d) floatW b i)), (512, .arr 1 t1)], [], 10000000⟩) (fun _ => True)
  · simp -implicitDefEqProofs (maxSteps := 2000000) (disch := first | exact tt_rfl rfl | omega | (simp only [go_sem] <;> omega) | fail) only [go_sem, norm_eq, Ok.some]
    try rfl
  · trivial
  intro i hi _
  by_cases h : i < N
  · have hgi := hg i h
    have hli := hln i
    have hfi := hfl i
    have hs := refF_succ (pickR d) floatW b i
    have hLen := fun (k : Nat) (hk : k < (pickR d i).length) => Length_ok (pickR d i) k hk (hpos i).2
    have hA := fun (k : Nat) (hk : k < (pickR d i).length) => ring_at hk
    have hi1000 : i * 1000 ≤ 60000 := Nat.mul_le_mul (show i ≤ 60 by omega) (Nat.le_refl 1000)
    have hlt : ∀ k, (refTo (pickR d i) b k).length ≤ k := fun k => by
      unfold refTo
      rw [List.length_map]
      refine Nat.le_trans (List.length_filter_le _ _) ?_
      rw [List.length_range]; exact Nat.le_refl _
    have hst := refTo_succ (pickR d i) b
    have hz : refTo (pickR d i) b 0 = [] := rfl
    have hrl : ((pickR d i).map fun b => AV.bool b).length = (pickR d i).length := by simp
    unfold ringV at hgi hLen
    generalize refF (pickR d) floatW b i = es at *
    generalize refF (pickR d) floatW b (i + 1) = es' at *
    generalize pickR d i = l at *
    generalize l.map (fun b => AV.bool b) = ls at *
    repeat (first | apply Wp.seqA | apply Wp.skipS | apply Wp.blockS | ((first | apply Wp.regS | apply Wp.condV | apply Wp.reg | apply Wp.condW | apply fin_ret); simp -implicitDefEqProofs (maxSteps := 2000000) (disch := first | exact tt_rfl rfl | omega | (simp only [go_sem] <;> omega) | fail) only [go_sem, h, Int.ofNat_lt] <;> try with_reducible rfl) | apply Wp.block | apply Wp.exitS | apply Wp.retS | apply Wp.exit | apply Wp.ret | apply Wp.skip)
    apply Wp.loopF H (fun k => ⟨[(1, .bool false), (2, iv b), (7, .slice 448 0 (es ++ ((refTo l b k).map (floatW i)).map FloatT.av).length), (8, .slice 512 0 N), (9, iv (i : Int)), (10, iv (k : Int))], [(448, .arr 4 (es ++ ((refTo l b k).map (floatW i)).map FloatT.av)), (512, .arr 1 t1)], [], 10000000⟩) (fun _ => True)
    · simp -implicitDefEqProofs (maxSteps := 2000000) (disch := first | exact tt_rfl rfl | omega | (simp only [go_sem] <;> omega) | fail) only [go_sem, norm_eq, Ok.some]
      rw [hz]
      simp
    · trivial
    intro k hk _
    by_cases hk2 : k < H
    · have hL := hLen k (by omega)
      have hAk := hA k (by omega)
      have hstk := hst k
      have hfk : (es ++ ((refTo l b k).map (floatW i)).map FloatT.av).length ≤ 61000 := by
        rw [List.length_append, List.length_map, List.length_map]
        have := hlt k
        omega
      by_cases h0 : lengthT l k = 0
      · rw [if_neg (fun h => h.1 h0), List.append_nil] at hstk
        rw [h0, show ((0 : Nat) : Int) = 0 from rfl] at hL
        rw [hstk]
        generalize es ++ ((refTo l b k).map (floatW i)).map FloatT.av = fs at *
        repeat (first | apply Wp.seqA | apply Wp.skipS | apply Wp.blockS | ((first | apply Wp.regS | apply Wp.condV | apply Wp.reg | apply Wp.condW | apply fin_ret); simp -implicitDefEqProofs (maxSteps := 2000000) (disch := first | exact tt_rfl rfl | omega | (simp only [go_sem] <;> omega) | fail) only [go_sem, h, hk2, Int.ofNat_lt, hgi, hL, hrl, hli, Int.toNat_natCast] <;> try with_reducible rfl) | apply Wp.block | apply Wp.exitS | apply Wp.retS | apply Wp.exit | apply Wp.ret | apply Wp.skip)
        apply round_next
        · simp -implicitDefEqProofs (maxSteps := 2000000) (disch := first | exact tt_rfl rfl | omega | (simp only [go_sem] <;> omega) | fail) only [go_sem, norm_eq, Ok.some]; with_reducible rfl
        exact ⟨hk2, by simp, trivial⟩
      · by_cases hb : b < lengthT l k
        · rw [if_pos ⟨h0, hb⟩] at hstk
          have e3 : es ++ ((refTo l b (k + 1)).map (floatW i)).map FloatT.av = es ++ ((refTo l b k).map (floatW i)).map FloatT.av ++ [.agg [iv (i : Int), iv (k : Int), iv ((lengthT l k : Nat) : Int), .bool (gb l k)]] := by
            rw [hstk, List.map_append, List.map_append, ← List.append_assoc]; rfl
          generalize es ++ ((refTo l b k).map (floatW i)).map FloatT.av = fs at *
          generalize es ++ ((refTo l b (k + 1)).map (floatW i)).map FloatT.av = fs' at *
          generalize lengthT l k = n at *
          repeat (first | apply Wp.seqA | apply Wp.skipS | apply Wp.blockS | ((first | apply Wp.regS | apply Wp.condV | apply Wp.reg | apply Wp.condW | apply fin_ret); simp -implicitDefEqProofs (maxSteps := 2000000) (disch := first | exact tt_rfl rfl | omega | (simp only [go_sem] <;> omega) | fail) only [go_sem, h, hk2, Int.ofNat_lt, hgi, hL, hrl, hli, hAk, show ¬ (n : Int) = 0 by omega, show ¬ (n : Int) ≤ b by omega, Int.toNat_natCast] <;> try with_reducible rfl) | apply Wp.block | apply Wp.exitS | apply Wp.retS | apply Wp.exit | apply Wp.ret | apply Wp.skip)
          apply round_next
          · simp -implicitDefEqProofs (maxSteps := 2000000) (disch := first | exact tt_rfl rfl | omega | (simp only [go_sem] <;> omega) | fail) only [go_sem, norm_eq, Ok.some]; with_reducible rfl
          refine ⟨hk2, ?_, trivial⟩
          rw [e3]
          simp
        · rw [if_neg (fun h => hb h.2), List.append_nil] at hstk
          rw [hstk]
          generalize es ++ ((refTo l b k).map (floatW i)).map FloatT.av = fs at *
          generalize lengthT l k = n at *
          repeat (first | apply Wp.seqA | apply Wp.skipS | apply Wp.blockS | ((first | apply Wp.regS | apply Wp.condV | apply Wp.reg | apply Wp.condW | apply fin_ret); simp -implicitDefEqProofs (maxSteps := 2000000) (disch := first | exact tt_rfl rfl | omega | (simp only [go_sem] <;> omega) | fail) only [go_sem, h, hk2, Int.ofNat_lt, hgi, hL, hrl, hli, show ¬ (n : Int) = 0 by omega, show (n : Int) ≤ b by omega, Int.toNat_natCast] <;> try with_reducible rfl) | apply Wp.block | apply Wp.exitS | apply Wp.retS | apply Wp.exit | apply Wp.ret | apply Wp.skip)
          apply round_next
          · simp -implicitDefEqProofs (maxSteps := 2000000) (disch := first | exact tt_rfl rfl | omega | (simp only [go_sem] <;> omega) | fail) only [go_sem, norm_eq, Ok.some]; with_reducible rfl
          exact ⟨hk2, by simp, trivial⟩
    · obtain rfl : k = H := by omega
      rw [hli] at hs
      rw [← hs]
      repeat (first | apply Wp.seqA | apply Wp.skipS | apply Wp.blockS | ((first | apply Wp.regS | apply Wp.condV | apply Wp.reg | apply Wp.condW | apply fin_ret); simp -implicitDefEqProofs (maxSteps := 2000000) (disch := first | exact tt_rfl rfl | omega | (simp only [go_sem] <;> omega) | fail) only [go_sem, h, Int.ofNat_lt, Int.lt_irrefl, hgi, hrl, hli] <;> try with_reducible rfl) | apply Wp.block | apply Wp.exitS | apply Wp.retS | apply Wp.exit | apply Wp.ret | apply Wp.skip)
      apply round_next
      · simp -implicitDefEqProofs (maxSteps := 2000000) (disch := first | exact tt_rfl rfl | omega | (simp only [go_sem] <;> omega) | fail) only [go_sem, norm_eq, Ok.some]; with_reducible rfl
      exact ⟨h, by simp, trivial⟩
  · obtain rfl : i = N := by omega
    have hfi := hfl i
    repeat (first | apply Wp.seqA | apply Wp.skipS | apply Wp.blockS | ((first | apply Wp.regS | apply Wp.condV | apply Wp.reg | apply Wp.condW | apply fin_ret); simp -implicitDefEqProofs (maxSteps := 2000000) (disch := first | exact tt_rfl rfl | omega | (simp only [go_sem] <;> omega) | fail) only [go_sem, Int.lt_irrefl, List.take_length] <;> try with_reducible rfl) | apply Wp.block | apply Wp.exitS | apply Wp.retS | apply Wp.exit | apply Wp.ret | apply Wp.skip)

theorem refFloats_warp (d : DesN) (hd : d.Ok) (b : Int) : lim F 24 [d.av, .bool true, iv b] = some (.own 4 (((warpF d).filter fun f => decide (b < f.len)).map FloatT.av), []) := by
  have h60 := hd.r60
  have h24 := hd.h24
  have h1 := hd.h1
  have hr1 := hd.r1
  have hT := Table_ok d hd
  have hO := Over_ok (tabN d d.rows.length) d.hk (by rw [tabN_len]; omega) (tabN_all d) (by rw [tabN_len]; omega) (by omega)
  have hpos := hookR_pos hd
  have eF := refF_eq (R := hookR d) (mk := floatH) (fun i => (hpos i).1) (fun _ _ => rfl) b d.hk
  change _ = ((warpF d).filter _).map _ at eF
  rw [← eF]
  clear eF
  have hg : ∀ i, i < d.hk → (tabV (overT (tabN d d.rows.length) d.hk))[i]? = some (ringV (hookR d i)) := fun i hi => by
    have h := overT_get d hi
    have hl : i < (overT (tabN d d.rows.length) d.hk).length := by simp [tabN, overT]; omega
    unfold tabV
    rw [List.getD_eq_getElem?_getD, List.getElem?_eq_getElem hl] at h
    rw [List.getElem?_map, List.getElem?_eq_getElem hl, ← h]; rfl
  have hlT : (tabV (tabN d d.rows.length)).length = d.rows.length := by simp [tabV, tabN]
  have hlO : (tabV (overT (tabN d d.rows.length) d.hk)).length = d.hk := by simp [tabV, overT]
  have hln : ∀ i, (hookR d i).length = d.rows.length := hookR_len d
  have hfl : ∀ i, (refF (hookR d) floatH b i).length ≤ i * 1000 := refF_len (fun i => (hpos i).2) b
  unfold DesN.av at *
  generalize tabV (tabN d d.rows.length) = t1 at *
  generalize tabV (overT (tabN d d.rows.length) d.hk) = t2 at *
  generalize d.rows.map (fun n : Nat => iv (n : Int)) = rs at *
  generalize hN : d.rows.length = N at *
  generalize hH : d.hk = H at *
  have etk : t1.take N = t1 := List.take_of_length_le (by omega)
  refine lim_by (fn := a24) (k := 3) (res := [.tmp 6]) rfl rfl rfl (by simp -implicitDefEqProofs (maxSteps := 2000000) (disch := first | exact tt_rfl rfl | omega | (simp only [go_sem] <;> omega) | fail) only [go_sem]) ?_
  simp -implicitDefEqProofs (maxSteps := 2000000) (disch := first | exact tt_rfl rfl | omega | (simp only [go_sem] <;> omega) | fail) only [go_sem]
  repeat (first | apply Wp.seqA | apply Wp.skipS | apply Wp.blockS | ((first | apply Wp.regS | apply Wp.condV | apply Wp.reg | apply Wp.condW | apply fin_ret); simp -implicitDefEqProofs (maxSteps := 2000000) (disch := first | exact tt_rfl rfl | omega | (simp only [go_sem] <;> omega) | fail) only [go_sem, hT, hO, hlT, hlO, etk, ite_self] <;> try with_reducible rfl) | apply Wp.block | apply Wp.exitS | apply Wp.retS | apply Wp.exit | apply Wp.ret | apply Wp.skip)
  apply Wp.loopF H (fun i => ⟨[(1, .bool true), (2, iv b), (7, .slice 448 0 (refF (hookR d) floatH b i).length), (8, .slice 512 0 H), (9, iv (i : Int))], [(448, .arr 4 (refF (hookR d) floatH b i)), (512, .arr 1 t2)], [], 10000000⟩) (fun _ => True)
  · simp -implicitDefEqProofs (maxSteps := 2000000) (disch := first | exact tt_rfl rfl | omega | (simp only [go_sem] <;> omega) | fail) only [go_sem, norm_eq, Ok.some]
    try rfl
  · trivial
  intro i hi _
  by_cases h : i < H
  · have hgi := hg i h
    have hli := hln i
    have hfi := hfl i
    have hs := refF_succ (hookR d) floatH b i
    have hLen := fun (k : Nat) (hk : k < (hookR d i).length) => Length_ok (hookR d i) k hk (hpos i).2
    have hA := fun (k : Nat) (hk : k < (hookR d i).length) => ring_at hk
    have hi1000 : i * 1000 ≤ 60000 := Nat.mul_le_mul (show i ≤ 60 by omega) (Nat.le_refl 1000)
    have hlt : ∀ k, (refTo (hookR d i) b k).length ≤ k := fun k => by
      unfold refTo
      rw [List.length_map]
      refine Nat.le_trans (List.length_filter_le _ _) ?_
      rw [List.length_range]; exact Nat.le_refl _
    have hst := refTo_succ (hookR d i) b
    have hz : refTo (hookR d i) b 0 = [] := rfl
    have hrl : ((hookR d i).map fun b => AV.bool b).length = (hookR d i).length := by simp
    unfold ringV at hgi hLen
    generalize refF (hookR d) floatH b i = es at *
    generalize refF (hookR d) floatH b (i + 1) = es' at *
    generalize hookR d i = l at *
    generalize l.map (fun b => AV.bool b) = ls at *
    repeat (first | apply Wp.seqA | apply Wp.skipS | apply Wp.blockS | ((first | apply Wp.regS | apply Wp.condV | apply Wp.reg | apply Wp.condW | apply fin_ret); simp -implicitDefEqProofs (maxSteps := 2000000) (disch := first | exact tt_rfl rfl | omega | (simp only [go_sem] <;> omega) | fail) only [go_sem, h, Int.ofNat_lt] <;> try with_reducible rfl) | apply Wp.block | apply Wp.exitS | apply Wp.retS | apply Wp.exit | apply Wp.ret | apply Wp.skip)
    apply Wp.loopF N (fun k => ⟨[(1, .bool true), (2, iv b), (7, .slice 448 0 (es ++ ((refTo l b k).map (floatH i)).map FloatT.av).length), (8, .slice 512 0 H), (9, iv (i : Int)), (10, iv (k : Int))], [(448, .arr 4 (es ++ ((refTo l b k).map (floatH i)).map FloatT.av)), (512, .arr 1 t2)], [], 10000000⟩) (fun _ => True)
    · simp -implicitDefEqProofs (maxSteps := 2000000) (disch := first | exact tt_rfl rfl | omega | (simp only [go_sem] <;> omega) | fail) only [go_sem, norm_eq, Ok.some]
      rw [hz]
      simp
    · trivial
    intro k hk _
    by_cases hk2 : k < N
    · have hL := hLen k (by omega)
      have hAk := hA k (by omega)
      have hstk := hst k
      have hfk : (es ++ ((refTo l b k).map (floatH i)).map FloatT.av).length ≤ 61000 := by
        rw [List.length_append, List.length_map, List.length_map]
        have := hlt k
        omega
      by_cases h0 : lengthT l k = 0
      · rw [if_neg (fun h => h.1 h0), List.append_nil] at hstk
        rw [h0, show ((0 : Nat) : Int) = 0 from rfl] at hL
        rw [hstk]
        generalize es ++ ((refTo l b k).map (floatH i)).map FloatT.av = fs at *
        repeat (first | apply Wp.seqA | apply Wp.skipS | apply Wp.blockS | ((first | apply Wp.regS | apply Wp.condV | apply Wp.reg | apply Wp.condW | apply fin_ret); simp -implicitDefEqProofs (maxSteps := 2000000) (disch := first | exact tt_rfl rfl | omega | (simp only [go_sem] <;> omega) | fail) only [go_sem, h, hk2, Int.ofNat_lt, hgi, hL, hrl, hli, Int.toNat_natCast] <;> try with_reducible rfl) | apply Wp.block | apply Wp.exitS | apply Wp.retS | apply Wp.exit | apply Wp.ret | apply Wp.skip)
        apply round_next
        · simp -implicitDefEqProofs (maxSteps := 2000000) (disch := first | exact tt_rfl rfl | omega | (simp only [go_sem] <;> omega) | fail) only [go_sem, norm_eq, Ok.some]; with_reducible rfl
        exact ⟨hk2, by simp, trivial⟩
      · by_cases hb : b < lengthT l k
        · rw [if_pos ⟨h0, hb⟩] at hstk
          have e3 : es ++ ((refTo l b (k + 1)).map (floatH i)).map FloatT.av = es ++ ((refTo l b k).map (floatH i)).map FloatT.av ++ [.agg [iv (k : Int), iv (i : Int), iv ((lengthT l k : Nat) : Int), .bool (gb l k)]] := by
            rw [hstk, List.map_append, List.map_append, ← List.append_assoc]; rfl
          generalize es ++ ((refTo l b k).map (floatH i)).map FloatT.av = fs at *
          generalize es ++ ((refTo l b (k + 1)).map (floatH i)).map FloatT.av = fs' at *
          generalize lengthT l k = n at *
          repeat (first | apply Wp.seqA | apply Wp.skipS | apply Wp.blockS | ((first | apply Wp.regS | apply Wp.condV | apply Wp.reg | apply Wp.condW | apply fin_ret); simp -implicitDefEqProofs (maxSteps := 2000000) (disch := first | exact tt_rfl rfl | omega | (simp only [go_sem] <;> omega) | fail) only [go_sem, h, hk2, Int.ofNat_lt, hgi, hL, hrl, hli, hAk, show ¬ (n : Int) = 0 by omega, show ¬ (n : Int) ≤ b by omega, Int.toNat_natCast] <;> try with_reducible rfl) | apply Wp.block | apply Wp.exitS | apply Wp.retS | apply Wp.exit | apply Wp.ret | apply Wp.skip)
          apply round_next
          · simp -implicitDefEqProofs (maxSteps := 2000000) (disch := first | exact tt_rfl rfl | omega | (simp only [go_sem] <;> omega) | fail) only [go_sem, norm_eq, Ok.some]; with_reducible rfl
          refine ⟨hk2, ?_, trivial⟩
          rw [e3]
          simp
        · rw [if_neg (fun h => hb h.2), List.append_nil] at hstk
          rw [hstk]
          generalize es ++ ((refTo l b k).map (floatH i)).map FloatT.av = fs at *
          generalize lengthT l k = n at *
          repeat (first | apply Wp.seqA | apply Wp.skipS | apply Wp.blockS | ((first | apply Wp.regS | apply Wp.condV | apply Wp.reg | apply Wp.condW | apply fin_ret); simp -implicitDefEqProofs (maxSteps := 2000000) (disch := first | exact tt_rfl rfl | omega | (simp only [go_sem] <;> omega) | fail) only [go_sem, h, hk2, Int.ofNat_lt, hgi, hL, hrl, hli, show ¬ (n : Int) = 0 by omega, show (n : Int) ≤ b by omega, Int.toNat_natCast] <;> try with_reducible rfl) | apply Wp.block | apply Wp.exitS | apply Wp.retS | apply Wp.exit | apply Wp.ret | apply Wp.skip)
          apply round_next
          · simp -implicitDefEqProofs (maxSteps := 2000000) (disch := first | exact tt_rfl rfl | omega | (simp only [go_sem] <;> omega) | fail) only [go_sem, norm_eq, Ok.some]; with_reducible rfl
          exact ⟨hk2, by simp, trivial⟩
    · obtain rfl : k = N := by omega
      rw [hli] at hs
      rw [← hs]
      repeat (first | apply Wp.seqA | apply Wp.skipS | apply Wp.blockS | ((first | apply Wp.regS | apply Wp.condV | apply Wp.reg | apply Wp.condW | apply fin_ret); simp -implicitDefEqProofs (maxSteps := 2000000) (disch := first | exact tt_rfl rfl | omega | (simp only [go_sem] <;> omega) | fail) only [go_sem, h, Int.ofNat_lt, Int.lt_irrefl, hgi, hrl, hli] <;> try with_reducible rfl) | apply Wp.block | apply Wp.exitS | apply Wp.retS | apply Wp.exit | apply Wp.ret | apply Wp.skip)
      apply round_next
      · simp -implicitDefEqProofs (maxSteps := 2000000) (disch := first | exact tt_rfl rfl | omega | (simp only [go_sem] <;> omega) | fail) only [go_sem, norm_eq, Ok.some]; with_reducible rfl
      exact ⟨h, by simp, trivial⟩
  · obtain rfl : i = H := by omega
    have hfi := hfl i
    repeat (first | apply Wp.seqA | apply Wp.skipS | apply Wp.blockS | ((first | apply Wp.regS | apply Wp.condV | apply Wp.reg | apply Wp.condW | apply fin_ret); simp -implicitDefEqProofs (maxSteps := 2000000) (disch := first | exact tt_rfl rfl | omega | (simp only [go_sem] <;> omega) | fail) only [go_sem, Int.lt_irrefl, List.take_length] <;> try with_reducible rfl) | apply Wp.block | apply Wp.exitS | apply Wp.retS | apply Wp.exit | apply Wp.ret | apply Wp.skip)

end Go.Abs
