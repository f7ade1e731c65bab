/-
  Chapter 6: contracts of rolls. No condition beyond those that each theorem names.
-/
import Derived.Test.YtbmihapnaclidaaW1
import Derived.Test.YtbmihapnaclidaaI1
set_option linter.all false
namespace Go.Abs
set_option maxRecDepth 10000
set_option maxHeartbeats 2000000

structure RollA where
  core : Int
  thick : Int
  layers : Int
  pulley : Int
  plo : Int
  phi : Int
def RollA.cells (r : RollA) : List AV := [iv r.core, iv r.thick, iv r.layers, iv r.pulley, iv r.plo, iv r.phi]
def RollA.av (r : RollA) : AV := .agg r.cells
abbrev RollA.Ok (r : RollA) : Prop := (1 ≤ r.core ∧ r.core ≤ 500000) ∧ (0 ≤ r.thick ∧ r.thick ≤ 1000) ∧ (1 ≤ r.layers ∧ r.layers ≤ 2000) ∧ (1 ≤ r.pulley ∧ r.pulley ≤ 500000) ∧ SpanOk r.plo r.phi 1 100000
def rollE (r : RollA) : Int := if r.Ok then 0 else 2

theorem Roll_ok (r : RollA) : lim F 42 [r.av] = some (iv (rollE r), []) := by
  have w1 := within_ok 1 500000 [r.core, r.pulley] (by simp)
  have w2 := within_ok 0 1000 [r.thick] (by simp)
  have w3 := within_ok 1 2000 [r.layers] (by simp)
  have w4 := isSpan_ok r.plo r.phi 1 100000
  simp only [List.map_cons, List.map_nil, List.all_cons, List.all_nil, Bool.and_true] at w1 w2 w3
  unfold rollE RollA.av RollA.cells
  by_cases c1 : (1 ≤ r.core ∧ r.core ≤ 500000) ∧ (1 ≤ r.pulley ∧ r.pulley ≤ 500000)
  · rw [decide_eq_true c1.1, decide_eq_true c1.2, Bool.and_true] at w1
    by_cases c2 : 0 ≤ r.thick ∧ r.thick ≤ 1000
    · by_cases c3 : 1 ≤ r.layers ∧ r.layers ≤ 2000
      · by_cases c4 : SpanOk r.plo r.phi 1 100000
        · rw [decide_eq_true c4] at w4
          refine lim_by (fn := a42) (k := 1) (res := [.tmp 2]) rfl rfl rfl (by simp -implicitDefEqProofs (maxSteps := 2000000) (disch := first | exact tt_rfl rfl | omega | (simp only [go_sem] <;> omega) | fail) only [go_sem]) ?_
          simp -implicitDefEqProofs (maxSteps := 2000000) (disch := first | exact tt_rfl rfl | omega | (simp only [go_sem] <;> omega) | fail) only [go_sem]
          repeat (first | apply Wp.seqA | apply Wp.skipS | apply Wp.blockS | ((first | apply Wp.regS | apply Wp.condV | apply Wp.reg | apply Wp.condW | apply fin_ret); simp -implicitDefEqProofs (maxSteps := 2000000) (disch := first | exact tt_rfl rfl | omega | (simp only [go_sem] <;> omega) | fail) only [go_sem, w1, w2, w3, w4, c2, c3] <;> try with_reducible rfl) | apply Wp.block | apply Wp.exitS | apply Wp.retS | apply Wp.exit | apply Wp.ret | apply Wp.skip)
          rw [if_pos ⟨c1.1, c2, c3, c1.2, c4⟩]
        · rw [decide_eq_false c4] at w4
          refine lim_by (fn := a42) (k := 1) (res := [.tmp 2]) rfl rfl rfl (by simp -implicitDefEqProofs (maxSteps := 2000000) (disch := first | exact tt_rfl rfl | omega | (simp only [go_sem] <;> omega) | fail) only [go_sem]) ?_
          simp -implicitDefEqProofs (maxSteps := 2000000) (disch := first | exact tt_rfl rfl | omega | (simp only [go_sem] <;> omega) | fail) only [go_sem]
          repeat (first | apply Wp.seqA | apply Wp.skipS | apply Wp.blockS | ((first | apply Wp.regS | apply Wp.condV | apply Wp.reg | apply Wp.condW | apply fin_ret); simp -implicitDefEqProofs (maxSteps := 2000000) (disch := first | exact tt_rfl rfl | omega | (simp only [go_sem] <;> omega) | fail) only [go_sem, w1, w2, w3, w4, c2, c3] <;> try with_reducible rfl) | apply Wp.block | apply Wp.exitS | apply Wp.retS | apply Wp.exit | apply Wp.ret | apply Wp.skip)
          rw [if_neg fun h => c4 h.2.2.2.2]
      · refine lim_by (fn := a42) (k := 1) (res := [.tmp 2]) rfl rfl rfl (by simp -implicitDefEqProofs (maxSteps := 2000000) (disch := first | exact tt_rfl rfl | omega | (simp only [go_sem] <;> omega) | fail) only [go_sem]) ?_
        simp -implicitDefEqProofs (maxSteps := 2000000) (disch := first | exact tt_rfl rfl | omega | (simp only [go_sem] <;> omega) | fail) only [go_sem]
        repeat (first | apply Wp.seqA | apply Wp.skipS | apply Wp.blockS | ((first | apply Wp.regS | apply Wp.condV | apply Wp.reg | apply Wp.condW | apply fin_ret); simp -implicitDefEqProofs (maxSteps := 2000000) (disch := first | exact tt_rfl rfl | omega | (simp only [go_sem] <;> omega) | fail) only [go_sem, w1, w2, w3, c2, c3] <;> try with_reducible rfl) | apply Wp.block | apply Wp.exitS | apply Wp.retS | apply Wp.exit | apply Wp.ret | apply Wp.skip)
        rw [if_neg fun h => c3 h.2.2.1]
    · refine lim_by (fn := a42) (k := 1) (res := [.tmp 2]) rfl rfl rfl (by simp -implicitDefEqProofs (maxSteps := 2000000) (disch := first | exact tt_rfl rfl | omega | (simp only [go_sem] <;> omega) | fail) only [go_sem]) ?_
      simp -implicitDefEqProofs (maxSteps := 2000000) (disch := first | exact tt_rfl rfl | omega | (simp only [go_sem] <;> omega) | fail) only [go_sem]
      repeat (first | apply Wp.seqA | apply Wp.skipS | apply Wp.blockS | ((first | apply Wp.regS | apply Wp.condV | apply Wp.reg | apply Wp.condW | apply fin_ret); simp -implicitDefEqProofs (maxSteps := 2000000) (disch := first | exact tt_rfl rfl | omega | (simp only [go_sem] <;> omega) | fail) only [go_sem, w1, w2, c2] <;> try with_reducible rfl) | apply Wp.block | apply Wp.exitS | apply Wp.retS | apply Wp.exit | apply Wp.ret | apply Wp.skip)
      rw [if_neg fun h => c2 h.2.1]
  · have e : (decide (1 ≤ r.core ∧ r.core ≤ 500000) && decide (1 ≤ r.pulley ∧ r.pulley ≤ 500000)) = false := by
      rw [← Bool.decide_and]; exact decide_eq_false c1
    rw [e] at w1
    refine lim_by (fn := a42) (k := 1) (res := [.tmp 2]) rfl rfl rfl (by simp -implicitDefEqProofs (maxSteps := 2000000) (disch := first | exact tt_rfl rfl | omega | (simp only [go_sem] <;> omega) | fail) only [go_sem]) ?_
    simp -implicitDefEqProofs (maxSteps := 2000000) (disch := first | exact tt_rfl rfl | omega | (simp only [go_sem] <;> omega) | fail) only [go_sem]
    repeat (first | apply Wp.seqA | apply Wp.skipS | apply Wp.blockS | ((first | apply Wp.regS | apply Wp.condV | apply Wp.reg | apply Wp.condW | apply fin_ret); simp -implicitDefEqProofs (maxSteps := 2000000) (disch := first | exact tt_rfl rfl | omega | (simp only [go_sem] <;> omega) | fail) only [go_sem, w1] <;> try with_reducible rfl) | apply Wp.block | apply Wp.exitS | apply Wp.retS | apply Wp.exit | apply Wp.ret | apply Wp.skip)
    rw [if_neg fun h => c1 ⟨h.1, h.2.2.2.1⟩]

theorem refRoll_ok (r : RollA) : lim F 45 [r.av] = some (.bool (decide r.Ok), []) := by
  have w1 := refIn_ok r.core 1 500000
  have w2 := refIn_ok r.thick 0 1000
  have w3 := refIn_ok r.layers 1 2000
  have w5 := refIn_ok r.pulley 1 500000
  have w4 := refSpan_ok r.plo r.phi 1 100000
  unfold RollA.av RollA.cells
  by_cases c1 : 1 ≤ r.core ∧ r.core ≤ 500000
  · by_cases c2 : 0 ≤ r.thick ∧ r.thick ≤ 1000
    · by_cases c3 : 1 ≤ r.layers ∧ r.layers ≤ 2000
      · by_cases c5 : 1 ≤ r.pulley ∧ r.pulley ≤ 500000
        · by_cases c4 : SpanOk r.plo r.phi 1 100000
          · rw [decide_eq_true c4] at w4
            refine lim_by (fn := a45) (k := 1) (res := [.tmp 2]) rfl rfl rfl (by simp -implicitDefEqProofs (maxSteps := 2000000) (disch := first | exact tt_rfl rfl | omega | (simp only [go_sem] <;> omega) | fail) only [go_sem]) ?_
            simp -implicitDefEqProofs (maxSteps := 2000000) (disch := first | exact tt_rfl rfl | omega | (simp only [go_sem] <;> omega) | fail) only [go_sem]
            repeat (first | apply Wp.seqA | apply Wp.skipS | apply Wp.blockS | ((first | apply Wp.regS | apply Wp.condV | apply Wp.reg | apply Wp.condW | apply fin_ret); simp -implicitDefEqProofs (maxSteps := 2000000) (disch := first | exact tt_rfl rfl | omega | (simp only [go_sem] <;> omega) | fail) only [go_sem, w1, w2, w3, w4, w5, c1, c2, c3, c5] <;> try with_reducible rfl) | apply Wp.block | apply Wp.exitS | apply Wp.retS | apply Wp.exit | apply Wp.ret | apply Wp.skip)
            rw [decide_eq_true ⟨c1, c2, c3, c5, c4⟩]
          · rw [decide_eq_false c4] at w4
            refine lim_by (fn := a45) (k := 1) (res := [.tmp 2]) rfl rfl rfl (by simp -implicitDefEqProofs (maxSteps := 2000000) (disch := first | exact tt_rfl rfl | omega | (simp only [go_sem] <;> omega) | fail) only [go_sem]) ?_
            simp -implicitDefEqProofs (maxSteps := 2000000) (disch := first | exact tt_rfl rfl | omega | (simp only [go_sem] <;> omega) | fail) only [go_sem]
            repeat (first | apply Wp.seqA | apply Wp.skipS | apply Wp.blockS | ((first | apply Wp.regS | apply Wp.condV | apply Wp.reg | apply Wp.condW | apply fin_ret); simp -implicitDefEqProofs (maxSteps := 2000000) (disch := first | exact tt_rfl rfl | omega | (simp only [go_sem] <;> omega) | fail) only [go_sem, w1, w2, w3, w4, w5, c1, c2, c3, c5] <;> try with_reducible rfl) | apply Wp.block | apply Wp.exitS | apply Wp.retS | apply Wp.exit | apply Wp.ret | apply Wp.skip)
            rw [decide_eq_false fun h => c4 h.2.2.2.2]
        · refine lim_by (fn := a45) (k := 1) (res := [.tmp 2]) rfl rfl rfl (by simp -implicitDefEqProofs (maxSteps := 2000000) (disch := first | exact tt_rfl rfl | omega | (simp only [go_sem] <;> omega) | fail) only [go_sem]) ?_
          simp -implicitDefEqProofs (maxSteps := 2000000) (disch := first | exact tt_rfl rfl | omega | (simp only [go_sem] <;> omega) | fail) only [go_sem]
          repeat (first | apply Wp.seqA | apply Wp.skipS | apply Wp.blockS | ((first | apply Wp.regS | apply Wp.condV | apply Wp.reg | apply Wp.condW | apply fin_ret); simp -implicitDefEqProofs (maxSteps := 2000000) (disch := first | exact tt_rfl rfl | omega | (simp only [go_sem] <;> omega) | fail) only [go_sem, w1, w2, w3, w5, c1, c2, c3, c5] <;> try with_reducible rfl) | apply Wp.block | apply Wp.exitS | apply Wp.retS | apply Wp.exit | apply Wp.ret | apply Wp.skip)
          rw [decide_eq_false fun h => c5 h.2.2.2.1]
      · refine lim_by (fn := a45) (k := 1) (res := [.tmp 2]) rfl rfl rfl (by simp -implicitDefEqProofs (maxSteps := 2000000) (disch := first | exact tt_rfl rfl | omega | (simp only [go_sem] <;> omega) | fail) only [go_sem]) ?_
        simp -implicitDefEqProofs (maxSteps := 2000000) (disch := first | exact tt_rfl rfl | omega | (simp only [go_sem] <;> omega) | fail) only [go_sem]
        repeat (first | apply Wp.seqA | apply Wp.skipS | apply Wp.blockS | ((first | apply Wp.regS | apply Wp.condV | apply Wp.reg | apply Wp.condW | apply fin_ret); simp -implicitDefEqProofs (maxSteps := 2000000) (disch := first | exact tt_rfl rfl | omega | (simp only [go_sem] <;> omega) | fail) only [go_sem, w1, w2, w3, c1, c2, c3] <;> try with_reducible rfl) | apply Wp.block | apply Wp.exitS | apply Wp.retS | apply Wp.exit | apply Wp.ret | apply Wp.skip)
        rw [decide_eq_false fun h => c3 h.2.2.1]
    · refine lim_by (fn := a45) (k := 1) (res := [.tmp 2]) rfl rfl rfl (by simp -implicitDefEqProofs (maxSteps := 2000000) (disch := first | exact tt_rfl rfl | omega | (simp only [go_sem] <;> omega) | fail) only [go_sem]) ?_
      simp -implicitDefEqProofs (maxSteps := 2000000) (disch := first | exact tt_rfl rfl | omega | (simp only [go_sem] <;> omega) | fail) only [go_sem]
      repeat (first | apply Wp.seqA | apply Wp.skipS | apply Wp.blockS | ((first | apply Wp.regS | apply Wp.condV | apply Wp.reg | apply Wp.condW | apply fin_ret); simp -implicitDefEqProofs (maxSteps := 2000000) (disch := first | exact tt_rfl rfl | omega | (simp only [go_sem] <;> omega) | fail) only [go_sem, w1, w2, c1, c2] <;> try with_reducible rfl) | apply Wp.block | apply Wp.exitS | apply Wp.retS | apply Wp.exit | apply Wp.ret | apply Wp.skip)
      rw [decide_eq_false fun h => c2 h.2.1]
  · refine lim_by (fn := a45) (k := 1) (res := [.tmp 2]) rfl rfl rfl (by simp -implicitDefEqProofs (maxSteps := 2000000) (disch := first | exact tt_rfl rfl | omega | (simp only [go_sem] <;> omega) | fail) only [go_sem]) ?_
    simp -implicitDefEqProofs (maxSteps := 2000000) (disch := first | exact tt_rfl rfl | omega | (simp only [go_sem] <;> omega) | fail) only [go_sem]
    repeat (first | apply Wp.seqA | apply Wp.skipS | apply Wp.blockS | ((first | apply Wp.regS | apply Wp.condV | apply Wp.reg | apply Wp.condW | apply fin_ret); simp -implicitDefEqProofs (maxSteps := 2000000) (disch := first | exact tt_rfl rfl | omega | (simp only [go_sem] <;> omega) | fail) only [go_sem, w1, c1] <;> try with_reducible rfl) | apply Wp.block | apply Wp.exitS | apply Wp.retS | apply Wp.exit | apply Wp.ret | apply Wp.skip)
    rw [decide_eq_false fun h => c1 h.1]

/-- how far it is around a layer -/
def RollA.around (r : RollA) (k : Int) : Int := r.core + k * r.thick
structure LOk (r : RollA) (w k : Int) : Prop where
  ok : r.Ok
  w0 : 1 ≤ w
  w1 : w ≤ 100000
  k0 : 0 ≤ k
  k1 : k ≤ 2000
theorem around_in {r : RollA} (h : r.Ok) {k : Int} (k0 : 0 ≤ k) (k1 : k ≤ 2000) : (0 ≤ k * r.thick ∧ k * r.thick ≤ 2000000) ∧ 1 ≤ r.around k ∧ r.around k ≤ 2500000 := by
  obtain ⟨h1, h2, h3, h4, h5⟩ := h
  have a1 : 0 ≤ k * r.thick := Int.mul_nonneg k0 h2.1
  have a2 : k * r.thick ≤ 2000 * 1000 := Int.mul_le_mul k1 h2.2 h2.1 (by omega)
  unfold RollA.around
  omega
theorem mul_in {a b A B : Int} (a0 : 0 ≤ a) (a1 : a ≤ A) (b0 : 0 ≤ b) (b1 : b ≤ B) : 0 ≤ a * b ∧ a * b ≤ A * B := ⟨Int.mul_nonneg a0 b0, Int.mul_le_mul a1 b1 b0 (by omega)⟩
theorem around_mono {r : RollA} (h : r.Ok) {i k : Int} (hik : i ≤ k) : r.around i ≤ r.around k := by
  have := Int.mul_le_mul_of_nonneg_right hik h.2.1.1
  unfold RollA.around
  omega

theorem round1_ok (r : RollA) (h : r.Ok) (k : Int) (k0 : 0 ≤ k) (k1 : k ≤ 2000) : lim F 114 [iv k, .iptr r.av 0] = some (iv (r.around k), []) := by
  obtain ⟨a1, a2⟩ := around_in h k0 k1
  have e : r.core + k * r.thick = r.around k := rfl
  obtain ⟨h1, h2, h3, h4, h5⟩ := h
  unfold RollA.av RollA.cells
  refine lim_by (fn := a114) (k := 2) (res := [.tmp 3]) rfl rfl rfl (by simp -implicitDefEqProofs (maxSteps := 2000000) (disch := first | exact tt_rfl rfl | omega | (simp only [go_sem] <;> omega) | fail) only [go_sem]) ?_
  simp -implicitDefEqProofs (maxSteps := 2000000) (disch := first | exact tt_rfl rfl | omega | (simp only [go_sem] <;> omega) | fail) only [go_sem]
  repeat (first | apply Wp.seqA | apply Wp.skipS | apply Wp.blockS | ((first | apply Wp.regS | apply Wp.condV | apply Wp.reg | apply Wp.condW | apply fin_ret); simp -implicitDefEqProofs (maxSteps := 2000000) (disch := first | exact tt_rfl rfl | omega | (simp only [go_sem] <;> omega) | fail) only [go_sem, e] <;> try with_reducible rfl) | apply Wp.block | apply Wp.exitS | apply Wp.retS | apply Wp.exit | apply Wp.ret | apply Wp.skip)

/-- a weight does not pull too much -/
abbrev lowOk (r : RollA) (w k : Int) : Prop := w * r.pulley ≤ r.phi * r.around k
/-- a weight does not pull enough -/
abbrev tooLow (r : RollA) (w k : Int) : Prop := w * r.pulley < r.plo * r.around k
abbrev pulls (r : RollA) (w k : Int) : Prop := lowOk r w k ∧ ¬ tooLow r w k

theorem bears2_ok (r : RollA) (w k : Int) (h : LOk r w k) : lim F 115 [iv k, .iptr (.agg [iv w]) 0, .iptr r.av 0, .iptr (.agg [.func 114 [.iptr r.av 0]]) 0] = some (.bool (decide (lowOk r w k)), []) := by
  obtain ⟨h, w0, w1, k0, k1⟩ := h
  have hr := round1_ok r h k k0 k1
  obtain ⟨a1, a2⟩ := around_in h k0 k1
  have hh := h
  obtain ⟨h1, h2, h3, h4, h5⟩ := hh
  have m1 := mul_in (a := w) (b := r.pulley) (by omega) w1 (by omega) h4.2
  have m2 := mul_in (a := r.phi) (b := r.around k) (by omega) h5.2.2 (by omega) a2.2
  unfold RollA.av RollA.cells at *
  by_cases c : lowOk r w k
  all_goals
    unfold lowOk at c
    refine lim_by (fn := a115) (k := 4) (res := [.tmp 5]) rfl rfl rfl (by simp -implicitDefEqProofs (maxSteps := 2000000) (disch := first | exact tt_rfl rfl | omega | (simp only [go_sem] <;> omega) | fail) only [go_sem]) ?_
    simp -implicitDefEqProofs (maxSteps := 2000000) (disch := first | exact tt_rfl rfl | omega | (simp only [go_sem] <;> omega) | fail) only [go_sem]
    repeat (first | apply Wp.seqA | apply Wp.skipS | apply Wp.blockS | ((first | apply Wp.regS | apply Wp.condV | apply Wp.reg | apply Wp.condW | apply fin_ret); simp -implicitDefEqProofs (maxSteps := 2000000) (disch := first | exact tt_rfl rfl | omega | (simp only [go_sem] <;> omega) | fail) only [go_sem, hr, c] <;> try with_reducible rfl) | apply Wp.block | apply Wp.exitS | apply Wp.retS | apply Wp.exit | apply Wp.ret | apply Wp.skip)
theorem bears3_ok (r : RollA) (w k : Int) (h : LOk r w k) : lim F 116 [iv k, .iptr (.agg [iv w]) 0, .iptr r.av 0, .iptr (.agg [.func 114 [.iptr r.av 0]]) 0] = some (.bool (decide (tooLow r w k)), []) := by
  obtain ⟨h, w0, w1, k0, k1⟩ := h
  have hr := round1_ok r h k k0 k1
  obtain ⟨a1, a2⟩ := around_in h k0 k1
  have hh := h
  obtain ⟨h1, h2, h3, h4, h5⟩ := hh
  have m1 := mul_in (a := w) (b := r.pulley) (by omega) w1 (by omega) h4.2
  have m2 := mul_in (a := r.plo) (b := r.around k) (by omega) (show r.plo ≤ 100000 by omega) (by omega) a2.2
  unfold RollA.av RollA.cells at *
  by_cases c : tooLow r w k
  all_goals
    unfold tooLow at c
    refine lim_by (fn := a116) (k := 4) (res := [.tmp 5]) rfl rfl rfl (by simp -implicitDefEqProofs (maxSteps := 2000000) (disch := first | exact tt_rfl rfl | omega | (simp only [go_sem] <;> omega) | fail) only [go_sem]) ?_
    simp -implicitDefEqProofs (maxSteps := 2000000) (disch := first | exact tt_rfl rfl | omega | (simp only [go_sem] <;> omega) | fail) only [go_sem]
    repeat (first | apply Wp.seqA | apply Wp.skipS | apply Wp.blockS | ((first | apply Wp.regS | apply Wp.condV | apply Wp.reg | apply Wp.condW | apply fin_ret); simp -implicitDefEqProofs (maxSteps := 2000000) (disch := first | exact tt_rfl rfl | omega | (simp only [go_sem] <;> omega) | fail) only [go_sem, hr, c] <;> try with_reducible rfl) | apply Wp.block | apply Wp.exitS | apply Wp.retS | apply Wp.exit | apply Wp.ret | apply Wp.skip)

/-- the first layer on which a weight does not pull too much, and the one behind the last one on which it pulls enough -/
def bearLo (r : RollA) (w : Int) : Nat := firstP (fun k => decide (lowOk r w k)) r.layers.toNat
def bearHi (r : RollA) (w : Int) : Nat := firstP (fun k => decide (tooLow r w k)) r.layers.toNat
theorem bear_iff {r : RollA} (h : r.Ok) {w : Int} (k : Nat) (hk : (k : Int) < r.layers) : pulls r w k ↔ bearLo r w ≤ k ∧ k < bearHi r w := by
  have m1 : ∀ i j : Nat, i ≤ j → lowOk r w i → lowOk r w j := fun i j hij hl => by
    have := Int.mul_le_mul_of_nonneg_left (around_mono h (show (i : Int) ≤ j by omega)) (show 0 ≤ r.phi by have := h.2.2.2.2; omega)
    unfold lowOk at *
    omega
  have m2 : ∀ i j : Nat, i ≤ j → tooLow r w i → tooLow r w j := fun i j hij hl => by
    have := Int.mul_le_mul_of_nonneg_left (around_mono h (show (i : Int) ≤ j by omega)) (show 0 ≤ r.plo by have := h.2.2.2.2; omega)
    unfold tooLow at *
    omega
  have e1 : lowOk r w k ↔ bearLo r w ≤ k := by
    constructor
    · intro hl
      rcases Nat.lt_or_ge k (bearLo r w) with g | g
      · have := firstP_no (p := fun k : Nat => decide (lowOk r w k)) g
        rw [decide_eq_false_iff_not] at this
        exact absurd hl this
      · exact g
    · intro g
      have := firstP_yes (p := fun k : Nat => decide (lowOk r w k)) (N := r.layers.toNat) (show bearLo r w < r.layers.toNat by omega)
      rw [decide_eq_true_eq] at this
      exact m1 _ _ g this
  have e2 : tooLow r w k ↔ bearHi r w ≤ k := by
    constructor
    · intro hl
      rcases Nat.lt_or_ge k (bearHi r w) with g | g
      · have := firstP_no (p := fun k : Nat => decide (tooLow r w k)) g
        rw [decide_eq_false_iff_not] at this
        exact absurd hl this
      · exact g
    · intro g
      have := firstP_yes (p := fun k : Nat => decide (tooLow r w k)) (N := r.layers.toNat) (show bearHi r w < r.layers.toNat by omega)
      rw [decide_eq_true_eq] at this
      exact m2 _ _ g this
  unfold pulls
  rw [e1, e2]
  omega
theorem bear_le (r : RollA) (w : Int) : bearLo r w ≤ r.layers.toNat ∧ bearHi r w ≤ r.layers.toNat := ⟨firstP_le _ _, firstP_le _ _⟩

theorem bears_ok (r : RollA) (w : Int) (h : r.Ok) (w0 : 1 ≤ w) (w1 : w ≤ 100000) : lim F 90 [r.av, iv w] = some (.agg [iv (bearLo r w), iv ((bearHi r w : Int) - 1)], []) := by
  have hl := h.2.2.1
  have mono := fun (i j : Nat) (hij : i ≤ j) => around_mono h (show (i : Int) ≤ j by omega)
  have s1 := search3 (fun k => decide (lowOk r w k)) r.layers.toNat 115 (.agg [iv w]) r.av (.agg [.func 114 [.iptr r.av 0]]) (by omega)
    (fun i j hij hj hi => by
      simp only [decide_eq_true_eq] at hi ⊢
      have := Int.mul_le_mul_of_nonneg_left (mono i j hij) (show 0 ≤ r.phi by have := h.2.2.2.2; omega)
      unfold lowOk at *
      omega) fun i hi => bears2_ok r w i ⟨h, w0, w1, by omega, by omega⟩
  have s2 := search3 (fun k => decide (tooLow r w k)) r.layers.toNat 116 (.agg [iv w]) r.av (.agg [.func 114 [.iptr r.av 0]]) (by omega)
    (fun i j hij hj hi => by
      simp only [decide_eq_true_eq] at hi ⊢
      have := Int.mul_le_mul_of_nonneg_left (mono i j hij) (show 0 ≤ r.plo by have := h.2.2.2.2; omega)
      unfold tooLow at *
      omega) fun i hi => bears3_ok r w i ⟨h, w0, w1, by omega, by omega⟩
  rw [show ((r.layers.toNat : Nat) : Int) = r.layers by omega] at s1 s2
  change _ = some (iv (bearLo r w), []) at s1
  change _ = some (iv (bearHi r w), []) at s2
  have b := bear_le r w
  generalize bearLo r w = x at *
  generalize bearHi r w = y at *
  unfold RollA.av RollA.cells at *
  refine lim_by (fn := a90) (k := 2) (res := [.cell 4 2 true]) rfl rfl rfl (by simp -implicitDefEqProofs (maxSteps := 2000000) (disch := first | exact tt_rfl rfl | omega | (simp only [go_sem] <;> omega) | fail) only [go_sem]) ?_
  simp -implicitDefEqProofs (maxSteps := 2000000) (disch := first | exact tt_rfl rfl | omega | (simp only [go_sem] <;> omega) | fail) only [go_sem]
  repeat (first | apply Wp.seqA | apply Wp.skipS | apply Wp.blockS | ((first | apply Wp.regS | apply Wp.condV | apply Wp.reg | apply Wp.condW | apply fin_ret); simp -implicitDefEqProofs (maxSteps := 2000000) (disch := first | exact tt_rfl rfl | omega | (simp only [go_sem] <;> omega) | fail) only [go_sem, s1, s2, show Value.oneCell' Value.nilFunc = true from rfl] <;> try with_reducible rfl) | apply Wp.block | apply Wp.exitS | apply Wp.retS | apply Wp.exit | apply Wp.ret | apply Wp.skip)

theorem areWeights_ok (l : List Int) (hl : l.length < 1000000000) : lim F 89 [.list 1 (l.map fun n => iv n)] = some (.bool (l.all fun n => decide (1 ≤ n ∧ n ≤ 100000)), []) := by
  have h := within_ok 1 100000 l hl
  refine lim_by (fn := a89) (k := 1) (res := [.tmp 2]) rfl rfl rfl (by simp -implicitDefEqProofs (maxSteps := 2000000) (disch := first | exact tt_rfl rfl | omega | (simp only [go_sem] <;> omega) | fail) only [go_sem]) ?_
  simp -implicitDefEqProofs (maxSteps := 2000000) (disch := first | exact tt_rfl rfl | omega | (simp only [go_sem] <;> omega) | fail) only [go_sem]
  repeat (first | apply Wp.seqA | apply Wp.skipS | apply Wp.blockS | ((first | apply Wp.regS | apply Wp.condV | apply Wp.reg | apply Wp.condW | apply fin_ret); simp -implicitDefEqProofs (maxSteps := 2000000) (disch := first | exact tt_rfl rfl | omega | (simp only [go_sem] <;> omega) | fail) only [go_sem, h] <;> try with_reducible rfl) | apply Wp.block | apply Wp.exitS | apply Wp.retS | apply Wp.exit | apply Wp.ret | apply Wp.skip)

def bearsE (r : RollA) (w : Int) : Int := if r.Ok then if 1 ≤ w ∧ w ≤ 100000 then if bearLo r w < bearHi r w then 0 else 7 else 3 else 2
theorem Bears_ok (r : RollA) (w : Int) : lim F 43 [r.av, iv w] = some (.tuple [.agg [iv (if bearsE r w = 0 then bearLo r w else 0), iv (if bearsE r w = 0 then (bearHi r w : Int) - 1 else 0)], iv (bearsE r w)], []) := by
  have h0 := Roll_ok r
  unfold bearsE
  by_cases h : r.Ok
  · rw [show rollE r = 0 from if_pos h] at h0
    rw [if_pos h]
    have h1 := areWeights_ok [w] (by simp)
    simp only [List.map_cons, List.map_nil, List.all_cons, List.all_nil, Bool.and_true] at h1
    by_cases hw : 1 ≤ w ∧ w ≤ 100000
    · have h2 := bears_ok r w h hw.1 hw.2
      rw [if_pos hw]
      generalize bearLo r w = x at *
      generalize bearHi r w = y at *
      by_cases hx : x < y
      · rw [if_pos hx, if_pos rfl, if_pos rfl]
        unfold RollA.av RollA.cells at *
        refine lim_by (fn := a43) (k := 2) (res := [.cell 4 2 true, .tmp 5]) rfl rfl rfl (by simp -implicitDefEqProofs (maxSteps := 2000000) (disch := first | exact tt_rfl rfl | omega | (simp only [go_sem] <;> omega) | fail) only [go_sem]) ?_
        simp -implicitDefEqProofs (maxSteps := 2000000) (disch := first | exact tt_rfl rfl | omega | (simp only [go_sem] <;> omega) | fail) only [go_sem]
        repeat (first | apply Wp.seqA | apply Wp.skipS | apply Wp.blockS | ((first | apply Wp.regS | apply Wp.condV | apply Wp.reg | apply Wp.condW | apply fin_ret); simp -implicitDefEqProofs (maxSteps := 2000000) (disch := first | exact tt_rfl rfl | omega | (simp only [go_sem] <;> omega) | fail) only [go_sem, h0, h1, h2, hw, show (x : Int) ≤ (y : Int) - 1 by omega] <;> try with_reducible rfl) | apply Wp.block | apply Wp.exitS | apply Wp.retS | apply Wp.exit | apply Wp.ret | apply Wp.skip)
      · rw [if_neg hx, if_neg (by omega), if_neg (by omega)]
        unfold RollA.av RollA.cells at *
        refine lim_by (fn := a43) (k := 2) (res := [.cell 4 2 true, .tmp 5]) rfl rfl rfl (by simp -implicitDefEqProofs (maxSteps := 2000000) (disch := first | exact tt_rfl rfl | omega | (simp only [go_sem] <;> omega) | fail) only [go_sem]) ?_
        simp -implicitDefEqProofs (maxSteps := 2000000) (disch := first | exact tt_rfl rfl | omega | (simp only [go_sem] <;> omega) | fail) only [go_sem]
        repeat (first | apply Wp.seqA | apply Wp.skipS | apply Wp.blockS | ((first | apply Wp.regS | apply Wp.condV | apply Wp.reg | apply Wp.condW | apply fin_ret); simp -implicitDefEqProofs (maxSteps := 2000000) (disch := first | exact tt_rfl rfl | omega | (simp only [go_sem] <;> omega) | fail) only [go_sem, h0, h1, h2, hw, show ¬ (x : Int) ≤ (y : Int) - 1 by omega] <;> try with_reducible rfl) | apply Wp.block | apply Wp.exitS | apply Wp.retS | apply Wp.exit | apply Wp.ret | apply Wp.skip)
    · rw [if_neg hw, if_neg (by omega), if_neg (by omega)]
      unfold RollA.av RollA.cells at *
      refine lim_by (fn := a43) (k := 2) (res := [.cell 4 2 true, .tmp 5]) rfl rfl rfl (by simp -implicitDefEqProofs (maxSteps := 2000000) (disch := first | exact tt_rfl rfl | omega | (simp only [go_sem] <;> omega) | fail) only [go_sem]) ?_
      simp -implicitDefEqProofs (maxSteps := 2000000) (disch := first | exact tt_rfl rfl | omega | (simp only [go_sem] <;> omega) | fail) only [go_sem]
      repeat (first | apply Wp.seqA | apply Wp.skipS | apply Wp.blockS | ((first | apply Wp.regS | apply Wp.condV | apply Wp.reg | apply Wp.condW | apply fin_ret); simp -implicitDefEqProofs (maxSteps := 2000000) (disch := first | exact tt_rfl rfl | omega | (simp only [go_sem] <;> omega) | fail) only [go_sem, h0, h1, hw] <;> try with_reducible rfl) | apply Wp.block | apply Wp.exitS | apply Wp.retS | apply Wp.exit | apply Wp.ret | apply Wp.skip)
  · rw [show rollE r = 2 from if_neg h] at h0
    rw [if_neg h, if_neg (by omega), if_neg (by omega)]
    unfold RollA.av RollA.cells at *
    refine lim_by (fn := a43) (k := 2) (res := [.cell 4 2 true, .tmp 5]) rfl rfl rfl (by simp -implicitDefEqProofs (maxSteps := 2000000) (disch := first | exact tt_rfl rfl | omega | (simp only [go_sem] <;> omega) | fail) only [go_sem]) ?_
    simp -implicitDefEqProofs (maxSteps := 2000000) (disch := first | exact tt_rfl rfl | omega | (simp only [go_sem] <;> omega) | fail) only [go_sem]
    repeat (first | apply Wp.seqA | apply Wp.skipS | apply Wp.blockS | ((first | apply Wp.regS | apply Wp.condV | apply Wp.reg | apply Wp.condW | apply fin_ret); simp -implicitDefEqProofs (maxSteps := 2000000) (disch := first | exact tt_rfl rfl | omega | (simp only [go_sem] <;> omega) | fail) only [go_sem, h0] <;> try with_reducible rfl) | apply Wp.block | apply Wp.exitS | apply Wp.retS | apply Wp.exit | apply Wp.ret | apply Wp.skip)

theorem refPulls_ok (r : RollA) (w k : Int) (h : LOk r w k) : lim F 98 [r.av, iv w, iv k] = some (.bool (decide (pulls r w k)), []) := by
  obtain ⟨h, w0, w1, k0, k1⟩ := h
  obtain ⟨a1, a2⟩ := around_in h k0 k1
  have hi := refIn_ok (w * r.pulley) (r.plo * r.around k) (r.phi * r.around k)
  obtain ⟨h1, h2, h3, h4, h5⟩ := h
  have m1 := mul_in (a := w) (b := r.pulley) (by omega) w1 (by omega) h4.2
  have m2 := mul_in (a := r.plo) (b := r.around k) (by omega) (show r.plo ≤ 100000 by omega) (by omega) a2.2
  have m3 := mul_in (a := r.phi) (b := r.around k) (by omega) h5.2.2 (by omega) a2.2
  have e : r.core + k * r.thick = r.around k := rfl
  have ep : decide (r.plo * r.around k ≤ w * r.pulley ∧ w * r.pulley ≤ r.phi * r.around k) = decide (pulls r w k) := by
    rw [decide_eq_decide]
    unfold pulls lowOk tooLow
    omega
  rw [ep] at hi
  unfold RollA.av RollA.cells at *
  refine lim_by (fn := a98) (k := 3) (res := [.tmp 6]) rfl rfl rfl (by simp -implicitDefEqProofs (maxSteps := 2000000) (disch := first | exact tt_rfl rfl | omega | (simp only [go_sem] <;> omega) | fail) only [go_sem]) ?_
  simp -implicitDefEqProofs (maxSteps := 2000000) (disch := first | exact tt_rfl rfl | omega | (simp only [go_sem] <;> omega) | fail) only [go_sem]
  repeat (first | apply Wp.seqA | apply Wp.skipS | apply Wp.blockS | ((first | apply Wp.regS | apply Wp.condV | apply Wp.reg | apply Wp.condW | apply fin_ret); simp -implicitDefEqProofs (maxSteps := 2000000) (disch := first | exact tt_rfl rfl | omega | (simp only [go_sem] <;> omega) | fail) only [go_sem, e, hi] <;> try with_reducible rfl) | apply Wp.block | apply Wp.exitS | apply Wp.retS | apply Wp.exit | apply Wp.ret | apply Wp.skip)

theorem refBears_ok (r : RollA) (w : Int) (h : r.Ok) (w0 : 1 ≤ w) (w1 : w ≤ 100000) :
    lim F 46 [r.av, iv w] = some (.tuple [.agg [iv (if bearLo r w < bearHi r w then bearLo r w else 0), iv (if bearLo r w < bearHi r w then (bearHi r w : Int) - 1 else 0)], .bool (decide (bearLo r w < bearHi r w))], []) := by
  have hl := h.2.2.1
  have hp := fun k : Nat => fun hk : (k : Int) < r.layers => refPulls_ok r w k ⟨h, w0, w1, by omega, by omega⟩
  have hi := fun k : Nat => fun hk : (k : Int) < r.layers => bear_iff h (w := w) k hk
  have b := bear_le r w
  generalize bearLo r w = x at *
  generalize bearHi r w = y at *
  unfold RollA.av RollA.cells at *
  refine lim_by (fn := a46) (k := 2) (res := [.cell 4 2 true, .tmp 5]) rfl rfl rfl (by simp -implicitDefEqProofs (maxSteps := 2000000) (disch := first | exact tt_rfl rfl | omega | (simp only [go_sem] <;> omega) | fail) only [go_sem]) ?_
  simp -implicitDefEqProofs (maxSteps := 2000000) (disch := first | exact tt_rfl rfl | omega | (simp only [go_sem] <;> omega) | fail) only [go_sem]
  repeat (first | apply Wp.seqA | apply Wp.skipS | apply Wp.blockS | ((first | apply Wp.regS | apply Wp.condV | apply Wp.reg | apply Wp.condW | apply fin_ret); simp -implicitDefEqProofs (maxSteps := 2000000) (disch := first | exact tt_rfl rfl | omega | (simp only [go_sem] <;> omega) | fail) only [go_sem] <;> try with_reducible rfl) | apply Wp.block | apply Wp.exitS | apply Wp.retS | apply Wp.exit | apply Wp.ret | apply Wp.skip)
  apply Wp.loopN r.layers.toNat (fun k fr => ∃ (lo hi : Int) (fd : Bool), fr = ⟨[(1, iv w), (2, .ptr 128 0 0), (4, .ptr 256 0 0), (6, .ptr 384 0 0), (7, .bool fd), (8, iv k)], [(128, .box [iv r.core, iv r.thick, iv r.layers, iv r.pulley, iv r.plo, iv r.phi]), (256, .box [iv 0, iv 0]), (384, .box [iv lo, iv hi])], [], 10000000⟩ ∧
    fd = decide (x < y ∧ x < k) ∧ (fd = true → lo = x ∧ hi = min (y : Int) k - 1) ∧ (fd = false → lo = 0 ∧ hi = 0))
  · simp -implicitDefEqProofs (maxSteps := 2000000) (disch := first | exact tt_rfl rfl | omega | (simp only [go_sem] <;> omega) | fail) only [go_sem, norm_eq, Ok.some]
    refine ⟨0, 0, false, rfl, ?_, by simp, by simp⟩
    rw [eq_comm, decide_eq_false_iff_not]
    omega
  rintro k fr hk ⟨lo, hi', fd, rfl, b3, b4, b5⟩
  by_cases hlt : (k : Int) < r.layers
  · have h1 := hp k hlt
    have h2 := hi k hlt
    by_cases hc : x ≤ k ∧ k < y
    · rw [decide_eq_true (h2.2 hc)] at h1
      cases fd
      · repeat (first | apply Wp.seqA | apply Wp.skipS | apply Wp.blockS | ((first | apply Wp.regS | apply Wp.condV | apply Wp.reg | apply Wp.condW | apply fin_ret); simp -implicitDefEqProofs (maxSteps := 2000000) (disch := first | exact tt_rfl rfl | omega | (simp only [go_sem] <;> omega) | fail) only [go_sem, hlt, h1] <;> try with_reducible rfl) | apply Wp.block | apply Wp.exitS | apply Wp.retS | apply Wp.exit | apply Wp.ret | apply Wp.skip)
        apply round_next (Q := fun _ _ => False)
        · simp -implicitDefEqProofs (maxSteps := 2000000) (disch := first | exact tt_rfl rfl | omega | (simp only [go_sem] <;> omega) | fail) only [go_sem, norm_eq, Ok.some]; with_reducible rfl
        refine ⟨by omega, k, k, true, by simp, ?_, ?_, ?_⟩
        · rw [eq_comm, decide_eq_true_eq]; omega
        · intro _
          rw [eq_comm, decide_eq_false_iff_not] at b3
          omega
        · intro h; cases h
      · repeat (first | apply Wp.seqA | apply Wp.skipS | apply Wp.blockS | ((first | apply Wp.regS | apply Wp.condV | apply Wp.reg | apply Wp.condW | apply fin_ret); simp -implicitDefEqProofs (maxSteps := 2000000) (disch := first | exact tt_rfl rfl | omega | (simp only [go_sem] <;> omega) | fail) only [go_sem, hlt, h1] <;> try with_reducible rfl) | apply Wp.block | apply Wp.exitS | apply Wp.retS | apply Wp.exit | apply Wp.ret | apply Wp.skip)
        apply round_next (Q := fun _ _ => False)
        · simp -implicitDefEqProofs (maxSteps := 2000000) (disch := first | exact tt_rfl rfl | omega | (simp only [go_sem] <;> omega) | fail) only [go_sem, norm_eq, Ok.some]; with_reducible rfl
        obtain ⟨rfl, rfl⟩ := b4 rfl
        refine ⟨by omega, x, k, true, by simp, ?_, ?_, ?_⟩
        · rw [eq_comm, decide_eq_true_eq]; omega
        · intro _; omega
        · intro h; cases h
    · rw [decide_eq_false fun h => hc (h2.1 h)] at h1
      repeat (first | apply Wp.seqA | apply Wp.skipS | apply Wp.blockS | ((first | apply Wp.regS | apply Wp.condV | apply Wp.reg | apply Wp.condW | apply fin_ret); simp -implicitDefEqProofs (maxSteps := 2000000) (disch := first | exact tt_rfl rfl | omega | (simp only [go_sem] <;> omega) | fail) only [go_sem, hlt, h1] <;> try with_reducible rfl) | apply Wp.block | apply Wp.exitS | apply Wp.retS | apply Wp.exit | apply Wp.ret | apply Wp.skip)
      apply round_next (Q := fun _ _ => False)
      · simp -implicitDefEqProofs (maxSteps := 2000000) (disch := first | exact tt_rfl rfl | omega | (simp only [go_sem] <;> omega) | fail) only [go_sem, norm_eq, Ok.some]; with_reducible rfl
      refine ⟨by omega, lo, hi', fd, by simp, ?_, ?_, b5⟩
      · rw [b3, decide_eq_decide]; omega
      · intro h
        have := b4 h
        rw [b3, decide_eq_true_eq] at h
        omega
  · by_cases hne : x < y
    · rw [if_pos hne, if_pos hne, decide_eq_true hne]
      have hd : fd = true := by rw [b3, decide_eq_true_eq]; omega
      subst hd
      obtain ⟨rfl, rfl⟩ := b4 rfl
      repeat (first | apply Wp.seqA | apply Wp.skipS | apply Wp.blockS | ((first | apply Wp.regS | apply Wp.condV | apply Wp.reg | apply Wp.condW | apply fin_ret); simp -implicitDefEqProofs (maxSteps := 2000000) (disch := first | exact tt_rfl rfl | omega | (simp only [go_sem] <;> omega) | fail) only [go_sem, hlt] <;> try with_reducible rfl) | apply Wp.block | apply Wp.exitS | apply Wp.retS | apply Wp.exit | apply Wp.ret | apply Wp.skip)
      rw [show min (y : Int) k = y by omega]
    · rw [if_neg hne, if_neg hne, decide_eq_false hne]
      have hd : fd = false := by rw [b3, decide_eq_false_iff_not]; omega
      subst hd
      obtain ⟨rfl, rfl⟩ := b5 rfl
      repeat (first | apply Wp.seqA | apply Wp.skipS | apply Wp.blockS | ((first | apply Wp.regS | apply Wp.condV | apply Wp.reg | apply Wp.condW | apply fin_ret); simp -implicitDefEqProofs (maxSteps := 2000000) (disch := first | exact tt_rfl rfl | omega | (simp only [go_sem] <;> omega) | fail) only [go_sem, hlt] <;> try with_reducible rfl) | apply Wp.block | apply Wp.exitS | apply Wp.retS | apply Wp.exit | apply Wp.ret | apply Wp.skip)
end Go.Abs
