/-
  Chapter 6: contracts of warps. No condition beyond those that each theorem names.
-/
import Derived.Test.YtbmihapnaclidaaW1
set_option linter.all false
namespace Go.Abs
set_option maxRecDepth 10000
set_option maxHeartbeats 1000000

abbrev SpanOk (a b least most : Int) : Prop := least ≤ a ∧ a ≤ b ∧ b ≤ most

theorem isSpan_ok (a b least most : Int) : lim F 79 [.agg [iv a, iv b], iv least, iv most] = some (.bool (decide (SpanOk a b least most)), []) := by
  have h := within_ok least most [a, b] (by simp)
  simp only [List.map_cons, List.map_nil, List.all_cons, List.all_nil, Bool.and_true] at h
  by_cases h1 : least ≤ a ∧ a ≤ most
  · by_cases h2 : least ≤ b ∧ b ≤ most
    · by_cases h3 : a ≤ b
      · refine lim_by (fn := a79) (k := 3) (res := [.tmp 6]) rfl rfl rfl (by simp -implicitDefEqProofs (maxSteps := 2000000) (disch := first | exact tt_rfl rfl | omega | (simp only [go_sem] <;> omega) | fail) only [go_sem]) ?_
        simp -implicitDefEqProofs (maxSteps := 2000000) (disch := first | exact tt_rfl rfl | omega | (simp only [go_sem] <;> omega) | fail) only [go_sem]
        repeat (first | apply Wp.seqA | apply Wp.skipS | apply Wp.blockS | ((first | apply Wp.regS | apply Wp.condV | apply Wp.reg | apply Wp.condW | apply fin_ret); simp -implicitDefEqProofs (maxSteps := 2000000) (disch := first | exact tt_rfl rfl | omega | (simp only [go_sem] <;> omega) | fail) only [go_sem, h, h1, h2, h3] <;> try with_reducible rfl) | apply Wp.block | apply Wp.exitS | apply Wp.retS | apply Wp.exit | apply Wp.ret | apply Wp.skip)
        rw [decide_eq_true]
        omega
      · refine lim_by (fn := a79) (k := 3) (res := [.tmp 6]) rfl rfl rfl (by simp -implicitDefEqProofs (maxSteps := 2000000) (disch := first | exact tt_rfl rfl | omega | (simp only [go_sem] <;> omega) | fail) only [go_sem]) ?_
        simp -implicitDefEqProofs (maxSteps := 2000000) (disch := first | exact tt_rfl rfl | omega | (simp only [go_sem] <;> omega) | fail) only [go_sem]
        repeat (first | apply Wp.seqA | apply Wp.skipS | apply Wp.blockS | ((first | apply Wp.regS | apply Wp.condV | apply Wp.reg | apply Wp.condW | apply fin_ret); simp -implicitDefEqProofs (maxSteps := 2000000) (disch := first | exact tt_rfl rfl | omega | (simp only [go_sem] <;> omega) | fail) only [go_sem, h, h1, h2, h3] <;> try with_reducible rfl) | apply Wp.block | apply Wp.exitS | apply Wp.retS | apply Wp.exit | apply Wp.ret | apply Wp.skip)
        rw [decide_eq_false]
        omega
    · rw [decide_eq_true h1, decide_eq_false h2] at h
      rw [Bool.and_false] at h
      refine lim_by (fn := a79) (k := 3) (res := [.tmp 6]) rfl rfl rfl (by simp -implicitDefEqProofs (maxSteps := 2000000) (disch := first | exact tt_rfl rfl | omega | (simp only [go_sem] <;> omega) | fail) only [go_sem]) ?_
      simp -implicitDefEqProofs (maxSteps := 2000000) (disch := first | exact tt_rfl rfl | omega | (simp only [go_sem] <;> omega) | fail) only [go_sem]
      repeat (first | apply Wp.seqA | apply Wp.skipS | apply Wp.blockS | ((first | apply Wp.regS | apply Wp.condV | apply Wp.reg | apply Wp.condW | apply fin_ret); simp -implicitDefEqProofs (maxSteps := 2000000) (disch := first | exact tt_rfl rfl | omega | (simp only [go_sem] <;> omega) | fail) only [go_sem, h] <;> try with_reducible rfl) | apply Wp.block | apply Wp.exitS | apply Wp.retS | apply Wp.exit | apply Wp.ret | apply Wp.skip)
      rw [decide_eq_false]
      omega
  · rw [decide_eq_false h1, Bool.false_and] at h
    refine lim_by (fn := a79) (k := 3) (res := [.tmp 6]) rfl rfl rfl (by simp -implicitDefEqProofs (maxSteps := 2000000) (disch := first | exact tt_rfl rfl | omega | (simp only [go_sem] <;> omega) | fail) only [go_sem]) ?_
    simp -implicitDefEqProofs (maxSteps := 2000000) (disch := first | exact tt_rfl rfl | omega | (simp only [go_sem] <;> omega) | fail) only [go_sem]
    repeat (first | apply Wp.seqA | apply Wp.skipS | apply Wp.blockS | ((first | apply Wp.regS | apply Wp.condV | apply Wp.reg | apply Wp.condW | apply fin_ret); simp -implicitDefEqProofs (maxSteps := 2000000) (disch := first | exact tt_rfl rfl | omega | (simp only [go_sem] <;> omega) | fail) only [go_sem, h] <;> try with_reducible rfl) | apply Wp.block | apply Wp.exitS | apply Wp.retS | apply Wp.exit | apply Wp.ret | apply Wp.skip)
    rw [decide_eq_false]
    omega

theorem refSpan_ok (a b least most : Int) : lim F 31 [.agg [iv a, iv b], iv least, iv most] = some (.bool (decide (SpanOk a b least most)), []) := by
  have h := refIn_ok a least b
  by_cases h1 : least ≤ a ∧ a ≤ b
  · by_cases h2 : b ≤ most
    · refine lim_by (fn := a31) (k := 3) (res := [.tmp 6]) rfl rfl rfl (by simp -implicitDefEqProofs (maxSteps := 2000000) (disch := first | exact tt_rfl rfl | omega | (simp only [go_sem] <;> omega) | fail) only [go_sem]) ?_
      simp -implicitDefEqProofs (maxSteps := 2000000) (disch := first | exact tt_rfl rfl | omega | (simp only [go_sem] <;> omega) | fail) only [go_sem]
      repeat (first | apply Wp.seqA | apply Wp.skipS | apply Wp.blockS | ((first | apply Wp.regS | apply Wp.condV | apply Wp.reg | apply Wp.condW | apply fin_ret); simp -implicitDefEqProofs (maxSteps := 2000000) (disch := first | exact tt_rfl rfl | omega | (simp only [go_sem] <;> omega) | fail) only [go_sem, h, h1, h2] <;> try with_reducible rfl) | apply Wp.block | apply Wp.exitS | apply Wp.retS | apply Wp.exit | apply Wp.ret | apply Wp.skip)
      rw [decide_eq_true]
      omega
    · refine lim_by (fn := a31) (k := 3) (res := [.tmp 6]) rfl rfl rfl (by simp -implicitDefEqProofs (maxSteps := 2000000) (disch := first | exact tt_rfl rfl | omega | (simp only [go_sem] <;> omega) | fail) only [go_sem]) ?_
      simp -implicitDefEqProofs (maxSteps := 2000000) (disch := first | exact tt_rfl rfl | omega | (simp only [go_sem] <;> omega) | fail) only [go_sem]
      repeat (first | apply Wp.seqA | apply Wp.skipS | apply Wp.blockS | ((first | apply Wp.regS | apply Wp.condV | apply Wp.reg | apply Wp.condW | apply fin_ret); simp -implicitDefEqProofs (maxSteps := 2000000) (disch := first | exact tt_rfl rfl | omega | (simp only [go_sem] <;> omega) | fail) only [go_sem, h, h1, h2] <;> try with_reducible rfl) | apply Wp.block | apply Wp.exitS | apply Wp.retS | apply Wp.exit | apply Wp.ret | apply Wp.skip)
      rw [decide_eq_false]
      omega
  · refine lim_by (fn := a31) (k := 3) (res := [.tmp 6]) rfl rfl rfl (by simp -implicitDefEqProofs (maxSteps := 2000000) (disch := first | exact tt_rfl rfl | omega | (simp only [go_sem] <;> omega) | fail) only [go_sem]) ?_
    simp -implicitDefEqProofs (maxSteps := 2000000) (disch := first | exact tt_rfl rfl | omega | (simp only [go_sem] <;> omega) | fail) only [go_sem]
    repeat (first | apply Wp.seqA | apply Wp.skipS | apply Wp.blockS | ((first | apply Wp.regS | apply Wp.condV | apply Wp.reg | apply Wp.condW | apply fin_ret); simp -implicitDefEqProofs (maxSteps := 2000000) (disch := first | exact tt_rfl rfl | omega | (simp only [go_sem] <;> omega) | fail) only [go_sem, h, h1] <;> try with_reducible rfl) | apply Wp.block | apply Wp.exitS | apply Wp.retS | apply Wp.exit | apply Wp.ret | apply Wp.skip)
    rw [decide_eq_false]
    omega

structure WarpA where
  ll : Int
  lh : Int
  sl : Int
  sh : Int
  cl : Int
  ch : Int
  wl : Int
  wh : Int
def WarpA.av (w : WarpA) : AV := .agg [iv w.ll, iv w.lh, iv w.sl, iv w.sh, iv w.cl, iv w.ch, iv w.wl, iv w.wh]
abbrev WarpA.Ok (w : WarpA) : Prop := SpanOk w.ll w.lh 0 10000000000 ∧ SpanOk w.sl w.sh 0 200 ∧ SpanOk w.cl w.ch 0 300 ∧ SpanOk w.wl w.wh 0 100000000
def warpE (w : WarpA) : Int := if w.Ok then 0 else 2

theorem Warp_ok (w : WarpA) : lim F 36 [w.av] = some (iv (warpE w), []) := by
  have h1 := isSpan_ok w.ll w.lh 0 10000000000
  have h2 := isSpan_ok w.sl w.sh 0 200
  have h3 := isSpan_ok w.cl w.ch 0 300
  have h4 := isSpan_ok w.wl w.wh 0 100000000
  unfold warpE WarpA.av
  by_cases c1 : SpanOk w.ll w.lh 0 10000000000
  · by_cases c2 : SpanOk w.sl w.sh 0 200
    · by_cases c3 : SpanOk w.cl w.ch 0 300
      · by_cases c4 : SpanOk w.wl w.wh 0 100000000
        · rw [decide_eq_true c1] at h1
          rw [decide_eq_true c2] at h2
          rw [decide_eq_true c3] at h3
          rw [decide_eq_true c4] at h4
          refine lim_by (fn := a36) (k := 1) (res := [.tmp 2]) rfl rfl rfl (by simp -implicitDefEqProofs (maxSteps := 2000000) (disch := first | exact tt_rfl rfl | omega | (simp only [go_sem] <;> omega) | fail) only [go_sem]) ?_
          simp -implicitDefEqProofs (maxSteps := 2000000) (disch := first | exact tt_rfl rfl | omega | (simp only [go_sem] <;> omega) | fail) only [go_sem]
          repeat (first | apply Wp.seqA | apply Wp.skipS | apply Wp.blockS | ((first | apply Wp.regS | apply Wp.condV | apply Wp.reg | apply Wp.condW | apply fin_ret); simp -implicitDefEqProofs (maxSteps := 2000000) (disch := first | exact tt_rfl rfl | omega | (simp only [go_sem] <;> omega) | fail) only [go_sem, h1, h2, h3, h4] <;> try with_reducible rfl) | apply Wp.block | apply Wp.exitS | apply Wp.retS | apply Wp.exit | apply Wp.ret | apply Wp.skip)
          rw [if_pos ⟨c1, c2, c3, c4⟩]
        · rw [decide_eq_true c1] at h1
          rw [decide_eq_true c2] at h2
          rw [decide_eq_true c3] at h3
          rw [decide_eq_false c4] at h4
          refine lim_by (fn := a36) (k := 1) (res := [.tmp 2]) rfl rfl rfl (by simp -implicitDefEqProofs (maxSteps := 2000000) (disch := first | exact tt_rfl rfl | omega | (simp only [go_sem] <;> omega) | fail) only [go_sem]) ?_
          simp -implicitDefEqProofs (maxSteps := 2000000) (disch := first | exact tt_rfl rfl | omega | (simp only [go_sem] <;> omega) | fail) only [go_sem]
          repeat (first | apply Wp.seqA | apply Wp.skipS | apply Wp.blockS | ((first | apply Wp.regS | apply Wp.condV | apply Wp.reg | apply Wp.condW | apply fin_ret); simp -implicitDefEqProofs (maxSteps := 2000000) (disch := first | exact tt_rfl rfl | omega | (simp only [go_sem] <;> omega) | fail) only [go_sem, h1, h2, h3, h4] <;> try with_reducible rfl) | apply Wp.block | apply Wp.exitS | apply Wp.retS | apply Wp.exit | apply Wp.ret | apply Wp.skip)
          rw [if_neg fun h => c4 h.2.2.2]
      · rw [decide_eq_true c1] at h1
        rw [decide_eq_true c2] at h2
        rw [decide_eq_false c3] at h3
        refine lim_by (fn := a36) (k := 1) (res := [.tmp 2]) rfl rfl rfl (by simp -implicitDefEqProofs (maxSteps := 2000000) (disch := first | exact tt_rfl rfl | omega | (simp only [go_sem] <;> omega) | fail) only [go_sem]) ?_
        simp -implicitDefEqProofs (maxSteps := 2000000) (disch := first | exact tt_rfl rfl | omega | (simp only [go_sem] <;> omega) | fail) only [go_sem]
        repeat (first | apply Wp.seqA | apply Wp.skipS | apply Wp.blockS | ((first | apply Wp.regS | apply Wp.condV | apply Wp.reg | apply Wp.condW | apply fin_ret); simp -implicitDefEqProofs (maxSteps := 2000000) (disch := first | exact tt_rfl rfl | omega | (simp only [go_sem] <;> omega) | fail) only [go_sem, h1, h2, h3] <;> try with_reducible rfl) | apply Wp.block | apply Wp.exitS | apply Wp.retS | apply Wp.exit | apply Wp.ret | apply Wp.skip)
        rw [if_neg fun h => c3 h.2.2.1]
    · rw [decide_eq_true c1] at h1
      rw [decide_eq_false c2] at h2
      refine lim_by (fn := a36) (k := 1) (res := [.tmp 2]) rfl rfl rfl (by simp -implicitDefEqProofs (maxSteps := 2000000) (disch := first | exact tt_rfl rfl | omega | (simp only [go_sem] <;> omega) | fail) only [go_sem]) ?_
      simp -implicitDefEqProofs (maxSteps := 2000000) (disch := first | exact tt_rfl rfl | omega | (simp only [go_sem] <;> omega) | fail) only [go_sem]
      repeat (first | apply Wp.seqA | apply Wp.skipS | apply Wp.blockS | ((first | apply Wp.regS | apply Wp.condV | apply Wp.reg | apply Wp.condW | apply fin_ret); simp -implicitDefEqProofs (maxSteps := 2000000) (disch := first | exact tt_rfl rfl | omega | (simp only [go_sem] <;> omega) | fail) only [go_sem, h1, h2] <;> try with_reducible rfl) | apply Wp.block | apply Wp.exitS | apply Wp.retS | apply Wp.exit | apply Wp.ret | apply Wp.skip)
      rw [if_neg fun h => c2 h.2.1]
  · rw [decide_eq_false c1] at h1
    refine lim_by (fn := a36) (k := 1) (res := [.tmp 2]) rfl rfl rfl (by simp -implicitDefEqProofs (maxSteps := 2000000) (disch := first | exact tt_rfl rfl | omega | (simp only [go_sem] <;> omega) | fail) only [go_sem]) ?_
    simp -implicitDefEqProofs (maxSteps := 2000000) (disch := first | exact tt_rfl rfl | omega | (simp only [go_sem] <;> omega) | fail) only [go_sem]
    repeat (first | apply Wp.seqA | apply Wp.skipS | apply Wp.blockS | ((first | apply Wp.regS | apply Wp.condV | apply Wp.reg | apply Wp.condW | apply fin_ret); simp -implicitDefEqProofs (maxSteps := 2000000) (disch := first | exact tt_rfl rfl | omega | (simp only [go_sem] <;> omega) | fail) only [go_sem, h1] <;> try with_reducible rfl) | apply Wp.block | apply Wp.exitS | apply Wp.retS | apply Wp.exit | apply Wp.ret | apply Wp.skip)
    rw [if_neg fun h => c1 h.1]

theorem refWarp_ok (w : WarpA) : lim F 39 [w.av] = some (.bool (decide w.Ok), []) := by
  have h1 := refSpan_ok w.ll w.lh 0 10000000000
  have h2 := refSpan_ok w.sl w.sh 0 200
  have h3 := refSpan_ok w.cl w.ch 0 300
  have h4 := refSpan_ok w.wl w.wh 0 100000000
  unfold WarpA.av
  by_cases c1 : SpanOk w.ll w.lh 0 10000000000
  · by_cases c2 : SpanOk w.sl w.sh 0 200
    · by_cases c3 : SpanOk w.cl w.ch 0 300
      · by_cases c4 : SpanOk w.wl w.wh 0 100000000
        · rw [decide_eq_true c1] at h1
          rw [decide_eq_true c2] at h2
          rw [decide_eq_true c3] at h3
          rw [decide_eq_true c4] at h4
          refine lim_by (fn := a39) (k := 1) (res := [.tmp 2]) rfl rfl rfl (by simp -implicitDefEqProofs (maxSteps := 2000000) (disch := first | exact tt_rfl rfl | omega | (simp only [go_sem] <;> omega) | fail) only [go_sem]) ?_
          simp -implicitDefEqProofs (maxSteps := 2000000) (disch := first | exact tt_rfl rfl | omega | (simp only [go_sem] <;> omega) | fail) only [go_sem]
          repeat (first | apply Wp.seqA | apply Wp.skipS | apply Wp.blockS | ((first | apply Wp.regS | apply Wp.condV | apply Wp.reg | apply Wp.condW | apply fin_ret); simp -implicitDefEqProofs (maxSteps := 2000000) (disch := first | exact tt_rfl rfl | omega | (simp only [go_sem] <;> omega) | fail) only [go_sem, h1, h2, h3, h4] <;> try with_reducible rfl) | apply Wp.block | apply Wp.exitS | apply Wp.retS | apply Wp.exit | apply Wp.ret | apply Wp.skip)
          rw [decide_eq_true ⟨c1, c2, c3, c4⟩]
        · rw [decide_eq_true c1] at h1
          rw [decide_eq_true c2] at h2
          rw [decide_eq_true c3] at h3
          rw [decide_eq_false c4] at h4
          refine lim_by (fn := a39) (k := 1) (res := [.tmp 2]) rfl rfl rfl (by simp -implicitDefEqProofs (maxSteps := 2000000) (disch := first | exact tt_rfl rfl | omega | (simp only [go_sem] <;> omega) | fail) only [go_sem]) ?_
          simp -implicitDefEqProofs (maxSteps := 2000000) (disch := first | exact tt_rfl rfl | omega | (simp only [go_sem] <;> omega) | fail) only [go_sem]
          repeat (first | apply Wp.seqA | apply Wp.skipS | apply Wp.blockS | ((first | apply Wp.regS | apply Wp.condV | apply Wp.reg | apply Wp.condW | apply fin_ret); simp -implicitDefEqProofs (maxSteps := 2000000) (disch := first | exact tt_rfl rfl | omega | (simp only [go_sem] <;> omega) | fail) only [go_sem, h1, h2, h3, h4] <;> try with_reducible rfl) | apply Wp.block | apply Wp.exitS | apply Wp.retS | apply Wp.exit | apply Wp.ret | apply Wp.skip)
          rw [decide_eq_false fun h => c4 h.2.2.2]
      · rw [decide_eq_true c1] at h1
        rw [decide_eq_true c2] at h2
        rw [decide_eq_false c3] at h3
        refine lim_by (fn := a39) (k := 1) (res := [.tmp 2]) rfl rfl rfl (by simp -implicitDefEqProofs (maxSteps := 2000000) (disch := first | exact tt_rfl rfl | omega | (simp only [go_sem] <;> omega) | fail) only [go_sem]) ?_
        simp -implicitDefEqProofs (maxSteps := 2000000) (disch := first | exact tt_rfl rfl | omega | (simp only [go_sem] <;> omega) | fail) only [go_sem]
        repeat (first | apply Wp.seqA | apply Wp.skipS | apply Wp.blockS | ((first | apply Wp.regS | apply Wp.condV | apply Wp.reg | apply Wp.condW | apply fin_ret); simp -implicitDefEqProofs (maxSteps := 2000000) (disch := first | exact tt_rfl rfl | omega | (simp only [go_sem] <;> omega) | fail) only [go_sem, h1, h2, h3] <;> try with_reducible rfl) | apply Wp.block | apply Wp.exitS | apply Wp.retS | apply Wp.exit | apply Wp.ret | apply Wp.skip)
        rw [decide_eq_false fun h => c3 h.2.2.1]
    · rw [decide_eq_true c1] at h1
      rw [decide_eq_false c2] at h2
      refine lim_by (fn := a39) (k := 1) (res := [.tmp 2]) rfl rfl rfl (by simp -implicitDefEqProofs (maxSteps := 2000000) (disch := first | exact tt_rfl rfl | omega | (simp only [go_sem] <;> omega) | fail) only [go_sem]) ?_
      simp -implicitDefEqProofs (maxSteps := 2000000) (disch := first | exact tt_rfl rfl | omega | (simp only [go_sem] <;> omega) | fail) only [go_sem]
      repeat (first | apply Wp.seqA | apply Wp.skipS | apply Wp.blockS | ((first | apply Wp.regS | apply Wp.condV | apply Wp.reg | apply Wp.condW | apply fin_ret); simp -implicitDefEqProofs (maxSteps := 2000000) (disch := first | exact tt_rfl rfl | omega | (simp only [go_sem] <;> omega) | fail) only [go_sem, h1, h2] <;> try with_reducible rfl) | apply Wp.block | apply Wp.exitS | apply Wp.retS | apply Wp.exit | apply Wp.ret | apply Wp.skip)
      rw [decide_eq_false fun h => c2 h.2.1]
  · rw [decide_eq_false c1] at h1
    refine lim_by (fn := a39) (k := 1) (res := [.tmp 2]) rfl rfl rfl (by simp -implicitDefEqProofs (maxSteps := 2000000) (disch := first | exact tt_rfl rfl | omega | (simp only [go_sem] <;> omega) | fail) only [go_sem]) ?_
    simp -implicitDefEqProofs (maxSteps := 2000000) (disch := first | exact tt_rfl rfl | omega | (simp only [go_sem] <;> omega) | fail) only [go_sem]
    repeat (first | apply Wp.seqA | apply Wp.skipS | apply Wp.blockS | ((first | apply Wp.regS | apply Wp.condV | apply Wp.reg | apply Wp.condW | apply fin_ret); simp -implicitDefEqProofs (maxSteps := 2000000) (disch := first | exact tt_rfl rfl | omega | (simp only [go_sem] <;> omega) | fail) only [go_sem, h1] <;> try with_reducible rfl) | apply Wp.block | apply Wp.exitS | apply Wp.retS | apply Wp.exit | apply Wp.ret | apply Wp.skip)
    rw [decide_eq_false fun h => c1 h.1]

/-- how much cloth a length gives -/
def clothV (s c a n : Int) : Int := max 0 (n * (1000 + s) / 1000 * (1000 - c) / 1000 - a)
structure YOk (s c a n : Int) : Prop where
  n0 : 0 ≤ n
  n1 : n ≤ 10000000001
  s0 : 0 ≤ s
  s1 : s ≤ 200
  c0 : 0 ≤ c
  c1 : c ≤ 300
  a0 : 0 ≤ a
  a1 : a ≤ 100000000
theorem YOk.x {s c a n : Int} (h : YOk s c a n) : 0 ≤ n * (1000 + s) ∧ n * (1000 + s) ≤ 12000000001200 :=
  ⟨Int.mul_nonneg h.n0 (by have := h.s0; omega), by
    have := Int.mul_le_mul h.n1 (show 1000 + s ≤ 1200 by have := h.s1; omega) (by have := h.s0; omega) (by omega); omega⟩
theorem YOk.y {s c a n : Int} (h : YOk s c a n) : 0 ≤ n * (1000 + s) / 1000 * (1000 - c) ∧ n * (1000 + s) / 1000 * (1000 - c) ≤ 12000000002000 := by
  have hx := h.x
  have h0 : 0 ≤ n * (1000 + s) / 1000 := by omega
  have h1 : n * (1000 + s) / 1000 ≤ 12000000002 := by omega
  exact ⟨Int.mul_nonneg h0 (by have := h.c1; omega), by
    have := Int.mul_le_mul h1 (show 1000 - c ≤ 1000 by have := h.c0; omega) (by have := h.c1; omega) (by omega); omega⟩
theorem YOk.bound {s c a n : Int} (h : YOk s c a n) : 0 ≤ clothV s c a n ∧ clothV s c a n ≤ 12000000003 := by
  have hy := h.y
  have := h.a0
  unfold clothV
  omega
theorem YOk.mono {s c a n s' c' a' n' : Int} (h : YOk s c a n) (h' : YOk s' c' a' n') (hn : n ≤ n') (hs : s ≤ s') (hc : c' ≤ c) (ha : a' ≤ a) : clothV s c a n ≤ clothV s' c' a' n' := by
  have h1 : n * (1000 + s) ≤ n' * (1000 + s') := Int.mul_le_mul hn (by omega) (by have := h.s0; omega) (by have := h'.n0; omega)
  have h2 : n * (1000 + s) / 1000 ≤ n' * (1000 + s') / 1000 := Int.ediv_le_ediv (by omega) h1
  have h3 : n * (1000 + s) / 1000 * (1000 - c) ≤ n' * (1000 + s') / 1000 * (1000 - c') := Int.mul_le_mul h2 (by omega) (by have := h.c1; omega) (by have := h'.x; omega)
  have h4 := Int.ediv_le_ediv (c := 1000) (by omega) h3
  unfold clothV
  omega

theorem cloth_ok (s c a n : Int) (h : YOk s c a n) : lim F 84 [.agg [iv s, iv c, iv a], iv n] = some (iv (clothV s c a n), []) := by
  have hx := h.x
  have hy := h.y
  have d1 : Int.tdiv (n * (1000 + s)) 1000 = n * (1000 + s) / 1000 := Int.tdiv_eq_ediv_of_nonneg hx.1
  have d2 : Int.tdiv (n * (1000 + s) / 1000 * (1000 - c)) 1000 = n * (1000 + s) / 1000 * (1000 - c) / 1000 := Int.tdiv_eq_ediv_of_nonneg hy.1
  obtain ⟨n0, n1, s0, s1, c0, c1, a0, a1⟩ := h
  unfold clothV
  refine lim_by (fn := a84) (k := 2) (res := [.tmp 4]) rfl rfl rfl (by simp -implicitDefEqProofs (maxSteps := 2000000) (disch := first | exact tt_rfl rfl | omega | (simp only [go_sem] <;> omega) | fail) only [go_sem]) ?_
  simp -implicitDefEqProofs (maxSteps := 2000000) (disch := first | exact tt_rfl rfl | omega | (simp only [go_sem] <;> omega) | fail) only [go_sem]
  repeat (first | apply Wp.seqA | apply Wp.skipS | apply Wp.blockS | ((first | apply Wp.regS | apply Wp.condV | apply Wp.reg | apply Wp.condW | apply fin_ret); simp -implicitDefEqProofs (maxSteps := 2000000) (disch := first | exact tt_rfl rfl | omega | (simp only [go_sem] <;> omega) | fail) only [go_sem, d1, d2] <;> try with_reducible rfl) | apply Wp.block | apply Wp.exitS | apply Wp.retS | apply Wp.exit | apply Wp.ret | apply Wp.skip)

theorem refCloth_ok (s c a n : Int) (h : YOk s c a n) : lim F 88 [iv n, iv s, iv c, iv a] = some (iv (clothV s c a n), []) := by
  have hx := h.x
  have hy := h.y
  have d1 : Int.tdiv (n * (1000 + s)) 1000 = n * (1000 + s) / 1000 := Int.tdiv_eq_ediv_of_nonneg hx.1
  have d2 : Int.tdiv (n * (1000 + s) / 1000 * (1000 - c)) 1000 = n * (1000 + s) / 1000 * (1000 - c) / 1000 := Int.tdiv_eq_ediv_of_nonneg hy.1
  obtain ⟨n0, n1, s0, s1, c0, c1, a0, a1⟩ := h
  unfold clothV
  refine lim_by (fn := a88) (k := 4) (res := [.tmp 8]) rfl rfl rfl (by simp -implicitDefEqProofs (maxSteps := 2000000) (disch := first | exact tt_rfl rfl | omega | (simp only [go_sem] <;> omega) | fail) only [go_sem]) ?_
  simp -implicitDefEqProofs (maxSteps := 2000000) (disch := first | exact tt_rfl rfl | omega | (simp only [go_sem] <;> omega) | fail) only [go_sem]
  repeat (first | apply Wp.seqA | apply Wp.skipS | apply Wp.blockS | ((first | apply Wp.regS | apply Wp.condV | apply Wp.reg | apply Wp.condW | apply fin_ret); simp -implicitDefEqProofs (maxSteps := 2000000) (disch := first | exact tt_rfl rfl | omega | (simp only [go_sem] <;> omega) | fail) only [go_sem, d1, d2] <;> try with_reducible rfl) | apply Wp.block | apply Wp.exitS | apply Wp.retS | apply Wp.exit | apply Wp.ret | apply Wp.skip)

theorem worst_ok (w : WarpA) : lim F 83 [w.av] = some (.agg [iv w.sl, iv w.ch, iv w.wh], []) := by
  unfold WarpA.av
  refine lim_by (fn := a83) (k := 1) (res := [.cell 2 3 true]) rfl rfl rfl (by simp -implicitDefEqProofs (maxSteps := 2000000) (disch := first | exact tt_rfl rfl | omega | (simp only [go_sem] <;> omega) | fail) only [go_sem]) ?_
  simp -implicitDefEqProofs (maxSteps := 2000000) (disch := first | exact tt_rfl rfl | omega | (simp only [go_sem] <;> omega) | fail) only [go_sem]
  repeat (first | apply Wp.seqA | apply Wp.skipS | apply Wp.blockS | ((first | apply Wp.regS | apply Wp.condV | apply Wp.reg | apply Wp.condW | apply fin_ret); simp -implicitDefEqProofs (maxSteps := 2000000) (disch := first | exact tt_rfl rfl | omega | (simp only [go_sem] <;> omega) | fail) only [go_sem] <;> try with_reducible rfl) | apply Wp.block | apply Wp.exitS | apply Wp.retS | apply Wp.exit | apply Wp.ret | apply Wp.skip)
theorem best_ok (w : WarpA) : lim F 85 [w.av] = some (.agg [iv w.sh, iv w.cl, iv w.wl], []) := by
  unfold WarpA.av
  refine lim_by (fn := a85) (k := 1) (res := [.cell 2 3 true]) rfl rfl rfl (by simp -implicitDefEqProofs (maxSteps := 2000000) (disch := first | exact tt_rfl rfl | omega | (simp only [go_sem] <;> omega) | fail) only [go_sem]) ?_
  simp -implicitDefEqProofs (maxSteps := 2000000) (disch := first | exact tt_rfl rfl | omega | (simp only [go_sem] <;> omega) | fail) only [go_sem]
  repeat (first | apply Wp.seqA | apply Wp.skipS | apply Wp.blockS | ((first | apply Wp.regS | apply Wp.condV | apply Wp.reg | apply Wp.condW | apply fin_ret); simp -implicitDefEqProofs (maxSteps := 2000000) (disch := first | exact tt_rfl rfl | omega | (simp only [go_sem] <;> omega) | fail) only [go_sem] <;> try with_reducible rfl) | apply Wp.block | apply Wp.exitS | apply Wp.retS | apply Wp.exit | apply Wp.ret | apply Wp.skip)

def WarpA.low (w : WarpA) : Int := clothV w.sl w.ch w.wh w.ll
def WarpA.high (w : WarpA) : Int := clothV w.sh w.cl w.wl w.lh
theorem WarpA.Ok.y {w : WarpA} (h : w.Ok) {s c a n : Int} (h1 : 0 ≤ n) (h2 : n ≤ 10000000001) (h3 : w.sl ≤ s) (h4 : s ≤ w.sh) (h5 : w.cl ≤ c) (h6 : c ≤ w.ch) (h7 : w.wl ≤ a) (h8 : a ≤ w.wh) : YOk s c a n := by
  obtain ⟨g1, g2, g3, g4⟩ := h
  constructor <;> omega

theorem Gives_ok (w : WarpA) : lim F 37 [w.av] = some (.tuple [.agg [iv (if warpE w = 0 then w.low else 0), iv (if warpE w = 0 then w.high else 0)], iv (warpE w)], []) := by
  have h0 := Warp_ok w
  have h1 := worst_ok w
  have h2 := best_ok w
  by_cases h : w.Ok
  · have e : warpE w = 0 := if_pos h
    have hs := h
    obtain ⟨g1, g2, g3, g4⟩ := hs
    have k1 := cloth_ok w.sl w.ch w.wh w.ll (h.y (by omega) (by omega) (by omega) (by omega) (by omega) (by omega) (by omega) (by omega))
    have k2 := cloth_ok w.sh w.cl w.wl w.lh (h.y (by omega) (by omega) (by omega) (by omega) (by omega) (by omega) (by omega) (by omega))
    rw [e] at h0 ⊢
    rw [if_pos rfl, if_pos rfl]
    unfold WarpA.low WarpA.high
    clear g1 g2 g3 g4
    unfold WarpA.av at *
    refine lim_by (fn := a37) (k := 1) (res := [.cell 2 2 true, .tmp 3]) rfl rfl rfl (by simp -implicitDefEqProofs (maxSteps := 2000000) (disch := first | exact tt_rfl rfl | omega | (simp only [go_sem] <;> omega) | fail) only [go_sem]) ?_
    simp -implicitDefEqProofs (maxSteps := 2000000) (disch := first | exact tt_rfl rfl | omega | (simp only [go_sem] <;> omega) | fail) only [go_sem]
    repeat (first | apply Wp.seqA | apply Wp.skipS | apply Wp.blockS | ((first | apply Wp.regS | apply Wp.condV | apply Wp.reg | apply Wp.condW | apply fin_ret); simp -implicitDefEqProofs (maxSteps := 2000000) (disch := first | exact tt_rfl rfl | omega | (simp only [go_sem] <;> omega) | fail) only [go_sem, h0, h1, h2, k1, k2] <;> try with_reducible rfl) | apply Wp.block | apply Wp.exitS | apply Wp.retS | apply Wp.exit | apply Wp.ret | apply Wp.skip)
  · have e : warpE w = 2 := if_neg h
    rw [e] at h0 ⊢
    rw [if_neg (by omega), if_neg (by omega)]
    unfold WarpA.av at *
    refine lim_by (fn := a37) (k := 1) (res := [.cell 2 2 true, .tmp 3]) rfl rfl rfl (by simp -implicitDefEqProofs (maxSteps := 2000000) (disch := first | exact tt_rfl rfl | omega | (simp only [go_sem] <;> omega) | fail) only [go_sem]) ?_
    simp -implicitDefEqProofs (maxSteps := 2000000) (disch := first | exact tt_rfl rfl | omega | (simp only [go_sem] <;> omega) | fail) only [go_sem]
    repeat (first | apply Wp.seqA | apply Wp.skipS | apply Wp.blockS | ((first | apply Wp.regS | apply Wp.condV | apply Wp.reg | apply Wp.condW | apply fin_ret); simp -implicitDefEqProofs (maxSteps := 2000000) (disch := first | exact tt_rfl rfl | omega | (simp only [go_sem] <;> omega) | fail) only [go_sem, h0] <;> try with_reducible rfl) | apply Wp.block | apply Wp.exitS | apply Wp.retS | apply Wp.exit | apply Wp.ret | apply Wp.skip)

def WarpA.need (w : WarpA) (c : Int) : Nat := firstP (fun n => decide (c ≤ clothV w.sl w.ch w.wh n)) 10000000001
theorem need1_ok (w : WarpA) (h : w.Ok) (c n : Int) (h0 : 0 ≤ n) (h1 : n ≤ 10000000000) : lim F 87 [iv n, .iptr w.av 0, .iptr (.agg [iv c]) 0] = some (.bool (decide (c ≤ clothV w.sl w.ch w.wh n)), []) := by
  have hs := h
  obtain ⟨g1, g2, g3, g4⟩ := hs
  have k1 := cloth_ok w.sl w.ch w.wh n (h.y h0 (by omega) (by omega) (by omega) (by omega) (by omega) (by omega) (by omega))
  have k2 := worst_ok w
  clear g1 g2 g3 g4
  unfold WarpA.av at *
  by_cases hc : c ≤ clothV w.sl w.ch w.wh n
  all_goals
    refine lim_by (fn := a87) (k := 3) (res := [.tmp 4]) rfl rfl rfl (by simp -implicitDefEqProofs (maxSteps := 2000000) (disch := first | exact tt_rfl rfl | omega | (simp only [go_sem] <;> omega) | fail) only [go_sem]) ?_
    simp -implicitDefEqProofs (maxSteps := 2000000) (disch := first | exact tt_rfl rfl | omega | (simp only [go_sem] <;> omega) | fail) only [go_sem]
    repeat (first | apply Wp.seqA | apply Wp.skipS | apply Wp.blockS | ((first | apply Wp.regS | apply Wp.condV | apply Wp.reg | apply Wp.condW | apply fin_ret); simp -implicitDefEqProofs (maxSteps := 2000000) (disch := first | exact tt_rfl rfl | omega | (simp only [go_sem] <;> omega) | fail) only [go_sem, k1, k2, hc, ge_iff_le] <;> try with_reducible rfl) | apply Wp.block | apply Wp.exitS | apply Wp.retS | apply Wp.exit | apply Wp.ret | apply Wp.skip)

def needE (w : WarpA) (c : Int) : Int := if w.Ok then if 0 ≤ c ∧ c ≤ 10000000000 then if w.need c ≤ 10000000000 then 0 else 7 else 3 else 2
theorem need_mono {w : WarpA} (h : w.Ok) (c : Int) (i j : Nat) (hij : i ≤ j) (hj : j < 10000000001) (hi : decide (c ≤ clothV w.sl w.ch w.wh i) = true) : decide (c ≤ clothV w.sl w.ch w.wh j) = true := by
  have hs := h
  obtain ⟨g1, g2, g3, g4⟩ := hs
  have := YOk.mono (h.y (n := i) (s := w.sl) (c := w.ch) (a := w.wh) (by omega) (by omega) (by omega) (by omega) (by omega) (by omega) (by omega) (by omega)) (h.y (n := j) (s := w.sl) (c := w.ch) (a := w.wh) (by omega) (by omega) (by omega) (by omega) (by omega) (by omega) (by omega) (by omega)) (by omega) (by omega) (by omega) (by omega)
  simp only [decide_eq_true_eq] at hi ⊢
  omega

theorem Need_ok (w : WarpA) (c : Int) : lim F 38 [w.av, iv c] = some (.tuple [iv (if needE w c = 0 then w.need c else 0), iv (needE w c)], []) := by
  have h0 := Warp_ok w
  by_cases h : w.Ok
  · have e : warpE w = 0 := if_pos h
    rw [e] at h0
    have h1 := isLength_ok c
    unfold needE
    rw [if_pos h]
    by_cases hc : 0 ≤ c ∧ c ≤ 10000000000
    · have h2 := search2 (fun n => decide (c ≤ clothV w.sl w.ch w.wh n)) 10000000001 87 w.av (.agg [iv c]) (by omega) (need_mono h c) fun i hi => need1_ok w h c i (by omega) (by omega)
      have h3 : w.need c ≤ 10000000001 := firstP_le _ _
      change _ = some (iv (w.need c), []) at h2
      rw [show ((10000000001 : Nat) : Int) = 10000000001 from rfl] at h2
      rw [if_pos hc]
      by_cases hn : w.need c ≤ 10000000000
      · rw [if_pos hn, if_pos rfl]
        unfold WarpA.av at *
        generalize w.need c = m at *
        refine lim_by (fn := a38) (k := 2) (res := [.tmp 4, .tmp 5]) rfl rfl rfl (by simp -implicitDefEqProofs (maxSteps := 2000000) (disch := first | exact tt_rfl rfl | omega | (simp only [go_sem] <;> omega) | fail) only [go_sem]) ?_
        simp -implicitDefEqProofs (maxSteps := 2000000) (disch := first | exact tt_rfl rfl | omega | (simp only [go_sem] <;> omega) | fail) only [go_sem]
        repeat (first | apply Wp.seqA | apply Wp.skipS | apply Wp.blockS | ((first | apply Wp.regS | apply Wp.condV | apply Wp.reg | apply Wp.condW | apply fin_ret); simp -implicitDefEqProofs (maxSteps := 2000000) (disch := first | exact tt_rfl rfl | omega | (simp only [go_sem] <;> omega) | fail) only [go_sem, h0, h1, h2, hc, show ¬ (10000000000 : Int) < m by omega, gt_iff_lt] <;> try with_reducible rfl) | apply Wp.block | apply Wp.exitS | apply Wp.retS | apply Wp.exit | apply Wp.ret | apply Wp.skip)
      · rw [if_neg hn, if_neg (by omega)]
        unfold WarpA.av at *
        generalize w.need c = m at *
        refine lim_by (fn := a38) (k := 2) (res := [.tmp 4, .tmp 5]) rfl rfl rfl (by simp -implicitDefEqProofs (maxSteps := 2000000) (disch := first | exact tt_rfl rfl | omega | (simp only [go_sem] <;> omega) | fail) only [go_sem]) ?_
        simp -implicitDefEqProofs (maxSteps := 2000000) (disch := first | exact tt_rfl rfl | omega | (simp only [go_sem] <;> omega) | fail) only [go_sem]
        repeat (first | apply Wp.seqA | apply Wp.skipS | apply Wp.blockS | ((first | apply Wp.regS | apply Wp.condV | apply Wp.reg | apply Wp.condW | apply fin_ret); simp -implicitDefEqProofs (maxSteps := 2000000) (disch := first | exact tt_rfl rfl | omega | (simp only [go_sem] <;> omega) | fail) only [go_sem, h0, h1, h2, hc, show (10000000000 : Int) < m by omega, gt_iff_lt] <;> try with_reducible rfl) | apply Wp.block | apply Wp.exitS | apply Wp.retS | apply Wp.exit | apply Wp.ret | apply Wp.skip)
    · rw [if_neg hc, if_neg (by omega)]
      unfold WarpA.av at *
      refine lim_by (fn := a38) (k := 2) (res := [.tmp 4, .tmp 5]) rfl rfl rfl (by simp -implicitDefEqProofs (maxSteps := 2000000) (disch := first | exact tt_rfl rfl | omega | (simp only [go_sem] <;> omega) | fail) only [go_sem]) ?_
      simp -implicitDefEqProofs (maxSteps := 2000000) (disch := first | exact tt_rfl rfl | omega | (simp only [go_sem] <;> omega) | fail) only [go_sem]
      repeat (first | apply Wp.seqA | apply Wp.skipS | apply Wp.blockS | ((first | apply Wp.regS | apply Wp.condV | apply Wp.reg | apply Wp.condW | apply fin_ret); simp -implicitDefEqProofs (maxSteps := 2000000) (disch := first | exact tt_rfl rfl | omega | (simp only [go_sem] <;> omega) | fail) only [go_sem, h0, h1, hc] <;> try with_reducible rfl) | apply Wp.block | apply Wp.exitS | apply Wp.retS | apply Wp.exit | apply Wp.ret | apply Wp.skip)
  · have e : warpE w = 2 := if_neg h
    rw [e] at h0
    unfold needE
    rw [if_neg h, if_neg (by omega)]
    unfold WarpA.av at *
    refine lim_by (fn := a38) (k := 2) (res := [.tmp 4, .tmp 5]) rfl rfl rfl (by simp -implicitDefEqProofs (maxSteps := 2000000) (disch := first | exact tt_rfl rfl | omega | (simp only [go_sem] <;> omega) | fail) only [go_sem]) ?_
    simp -implicitDefEqProofs (maxSteps := 2000000) (disch := first | exact tt_rfl rfl | omega | (simp only [go_sem] <;> omega) | fail) only [go_sem]
    repeat (first | apply Wp.seqA | apply Wp.skipS | apply Wp.blockS | ((first | apply Wp.regS | apply Wp.condV | apply Wp.reg | apply Wp.condW | apply fin_ret); simp -implicitDefEqProofs (maxSteps := 2000000) (disch := first | exact tt_rfl rfl | omega | (simp only [go_sem] <;> omega) | fail) only [go_sem, h0] <;> try with_reducible rfl) | apply Wp.block | apply Wp.exitS | apply Wp.retS | apply Wp.exit | apply Wp.ret | apply Wp.skip)

theorem refGives_ok (w : WarpA) (h : w.Ok) : lim F 40 [w.av] = some (.agg [iv w.low, iv w.high], []) := by
  have hs := h
  obtain ⟨g1, g2, g3, g4⟩ := hs
  have bl : 0 ≤ w.low ∧ w.low ≤ 12000000003 := YOk.bound (h.y (by omega) (by omega) (by omega) (by omega) (by omega) (by omega) (by omega) (by omega))
  have bh : 0 ≤ w.high ∧ w.high ≤ 12000000003 := YOk.bound (h.y (by omega) (by omega) (by omega) (by omega) (by omega) (by omega) (by omega) (by omega))
  have cl : ∀ s c, w.sl ≤ s → s ≤ w.sh → w.cl ≤ c → c ≤ w.ch → w.low ≤ clothV s c w.wh w.ll ∧ clothV s c w.wl w.lh ≤ w.high := by
    intro s c a1 a2 a3 a4
    refine ⟨YOk.mono (h.y ?_ ?_ ?_ ?_ ?_ ?_ ?_ ?_) (h.y ?_ ?_ ?_ ?_ ?_ ?_ ?_ ?_) ?_ ?_ ?_ ?_, YOk.mono (h.y ?_ ?_ ?_ ?_ ?_ ?_ ?_ ?_) (h.y ?_ ?_ ?_ ?_ ?_ ?_ ?_ ?_) ?_ ?_ ?_ ?_⟩
    all_goals omega
  have el : clothV w.sl w.ch w.wh w.ll = w.low := rfl
  have eh : clothV w.sh w.cl w.wl w.lh = w.high := rfl
  generalize w.low = L at *
  generalize w.high = H at *
  unfold WarpA.av
  refine lim_by (fn := a40) (k := 1) (res := [.cell 2 2 true]) rfl rfl rfl (by simp -implicitDefEqProofs (maxSteps := 2000000) (disch := first | exact tt_rfl rfl | omega | (simp only [go_sem] <;> omega) | fail) only [go_sem]) ?_
  simp -implicitDefEqProofs (maxSteps := 2000000) (disch := first | exact tt_rfl rfl | omega | (simp only [go_sem] <;> omega) | fail) only [go_sem]
  repeat (first | apply Wp.seqA | apply Wp.skipS | apply Wp.blockS | ((first | apply Wp.regS | apply Wp.condV | apply Wp.reg | apply Wp.condW | apply fin_ret); simp -implicitDefEqProofs (maxSteps := 2000000) (disch := first | exact tt_rfl rfl | omega | (simp only [go_sem] <;> omega) | fail) only [go_sem] <;> try with_reducible rfl) | apply Wp.block | apply Wp.exitS | apply Wp.retS | apply Wp.exit | apply Wp.ret | apply Wp.skip)
  apply Wp.loopM (fun k fr => ∃ s lo hi : Int, fr = ⟨[(1, .ptr 64 0 0), (2, .ptr 128 0 0), (3, .ptr 192 0 0), (4, iv s)], [(64, .box [iv w.ll, iv w.lh, iv w.sl, iv w.sh, iv w.cl, iv w.ch, iv w.wl, iv w.wh]), (128, .box [iv 0, iv 0]), (192, .box [iv lo, iv hi])], [], 10000000⟩ ∧
    k = (w.sh + 1 - s).toNat ∧ w.sl ≤ s ∧ s ≤ w.sh + 1 ∧ L ≤ lo ∧ lo ≤ 1152921504606846976 ∧ -1 ≤ hi ∧ hi ≤ H ∧ (w.sl < s → lo = L) ∧ (w.sh < s → hi = H))
  · simp -implicitDefEqProofs (maxSteps := 2000000) (disch := first | exact tt_rfl rfl | omega | (simp only [go_sem] <;> omega) | fail) only [go_sem, norm_eq, Ok.some]
    exact ⟨_, w.sl, 1152921504606846976, -1, rfl, rfl, by omega, by omega, by omega, by omega, by omega, by omega, by omega, by omega⟩
  rintro k fr ⟨s, lo, hi, rfl, rfl, b1, b2, b3, b4, b5, b6, b7, b8⟩
  by_cases hlt : s ≤ w.sh
  · repeat (first | apply Wp.seqA | apply Wp.skipS | apply Wp.blockS | ((first | apply Wp.regS | apply Wp.condV | apply Wp.reg | apply Wp.condW | apply fin_ret); simp -implicitDefEqProofs (maxSteps := 2000000) (disch := first | exact tt_rfl rfl | omega | (simp only [go_sem] <;> omega) | fail) only [go_sem, hlt] <;> try with_reducible rfl) | apply Wp.block | apply Wp.exitS | apply Wp.retS | apply Wp.exit | apply Wp.ret | apply Wp.skip)
    apply Wp.loopM (fun k fr => ∃ c lo hi : Int, fr = ⟨[(1, .ptr 64 0 0), (2, .ptr 128 0 0), (3, .ptr 192 0 0), (4, iv s), (5, iv c)], [(64, .box [iv w.ll, iv w.lh, iv w.sl, iv w.sh, iv w.cl, iv w.ch, iv w.wl, iv w.wh]), (128, .box [iv 0, iv 0]), (192, .box [iv lo, iv hi])], [], 10000000⟩ ∧
      k = (w.ch + 1 - c).toNat ∧ w.cl ≤ c ∧ c ≤ w.ch + 1 ∧ L ≤ lo ∧ lo ≤ 1152921504606846976 ∧ -1 ≤ hi ∧ hi ≤ H ∧ (w.sl < s ∨ w.ch < c → lo = L) ∧ (s = w.sh → w.cl < c → hi = H))
    · simp -implicitDefEqProofs (maxSteps := 2000000) (disch := first | exact tt_rfl rfl | omega | (simp only [go_sem] <;> omega) | fail) only [go_sem, norm_eq, Ok.some]
      exact ⟨_, w.cl, lo, hi, rfl, rfl, by omega, by omega, by omega, by omega, by omega, by omega, by omega, by omega⟩
    clear b3 b4 b5 b6 b7 b8
    rintro k fr ⟨c, lo, hi, rfl, rfl, f1, f2, f3, f4, f5, f6, f7, f8⟩
    by_cases hlc : c ≤ w.ch
    · have hx := cl s c b1 hlt f1 hlc
      have yx : YOk s c w.wh w.ll := h.y (by omega) (by omega) (by omega) (by omega) (by omega) (by omega) (by omega) (by omega)
      have yy : YOk s c w.wl w.lh := h.y (by omega) (by omega) (by omega) (by omega) (by omega) (by omega) (by omega) (by omega)
      have kx := refCloth_ok _ _ _ _ yx
      have ky := refCloth_ok _ _ _ _ yy
      have bx := yx.bound
      have by' := yy.bound
      have ex : s = w.sl → c = w.ch → clothV s c w.wh w.ll = L := by rintro rfl rfl; exact el
      have ey : s = w.sh → c = w.cl → clothV s c w.wl w.lh = H := by rintro rfl rfl; exact eh
      clear el eh cl
      generalize clothV s c w.wh w.ll = x at *
      generalize clothV s c w.wl w.lh = y at *
      repeat (first | apply Wp.seqA | apply Wp.skipS | apply Wp.blockS | ((first | apply Wp.regS | apply Wp.condV | apply Wp.reg | apply Wp.condW | apply fin_ret); simp -implicitDefEqProofs (maxSteps := 2000000) (disch := first | exact tt_rfl rfl | omega | (simp only [go_sem] <;> omega) | fail) only [go_sem, hlc, kx, ky] <;> try with_reducible rfl) | apply Wp.block | apply Wp.exitS | apply Wp.retS | apply Wp.exit | apply Wp.ret | apply Wp.skip)
      apply round_next (Q := fun _ _ => False)
      · simp -implicitDefEqProofs (maxSteps := 2000000) (disch := first | exact tt_rfl rfl | omega | (simp only [go_sem] <;> omega) | fail) only [go_sem, norm_eq, Ok.some]; with_reducible rfl
      refine ⟨_, ?_, c + 1, min lo x, max hi y, rfl, rfl, ?_, ?_, ?_, ?_, ?_, ?_, ?_, ?_⟩
      all_goals omega
    · obtain rfl : c = w.ch + 1 := by omega
      repeat (first | apply Wp.seqA | apply Wp.skipS | apply Wp.blockS | ((first | apply Wp.regS | apply Wp.condV | apply Wp.reg | apply Wp.condW | apply fin_ret); simp -implicitDefEqProofs (maxSteps := 2000000) (disch := first | exact tt_rfl rfl | omega | (simp only [go_sem] <;> omega) | fail) only [go_sem, hlc] <;> try with_reducible rfl) | apply Wp.block | apply Wp.exitS | apply Wp.retS | apply Wp.exit | apply Wp.ret | apply Wp.skip)
      apply round_next (Q := fun _ _ => False)
      · simp -implicitDefEqProofs (maxSteps := 2000000) (disch := first | exact tt_rfl rfl | omega | (simp only [go_sem] <;> omega) | fail) only [go_sem, norm_eq, Ok.some]; with_reducible rfl
      refine ⟨_, ?_, s + 1, lo, hi, rfl, rfl, ?_, ?_, ?_, ?_, ?_, ?_, ?_, ?_⟩
      all_goals omega
  · repeat (first | apply Wp.seqA | apply Wp.skipS | apply Wp.blockS | ((first | apply Wp.regS | apply Wp.condV | apply Wp.reg | apply Wp.condW | apply fin_ret); simp -implicitDefEqProofs (maxSteps := 2000000) (disch := first | exact tt_rfl rfl | omega | (simp only [go_sem] <;> omega) | fail) only [go_sem, hlt] <;> try with_reducible rfl) | apply Wp.block | apply Wp.exitS | apply Wp.retS | apply Wp.exit | apply Wp.ret | apply Wp.skip)
    rw [b7 (by omega), b8 (by omega)]

theorem half_div (a b : Nat) : Int.tdiv ((a : Int) + b) 2 = (((a + b) / 2 : Nat) : Int) := by
  rw [Int.tdiv_eq_ediv_of_nonneg (by omega)]; omega

theorem refNeed_ok (w : WarpA) (h : w.Ok) (c : Int) : lim F 41 [w.av, iv c] = some (.tuple [iv (w.need c), .bool (decide (w.need c ≤ 10000000000))], []) := by
  have hs := h
  obtain ⟨g1, g2, g3, g4⟩ := hs
  have mono := need_mono h c
  have hp : ∀ n : Nat, n < 10000000001 → lim F 88 [iv n, iv w.sl, iv w.ch, iv w.wh] = some (iv (clothV w.sl w.ch w.wh n), []) := fun n hn =>
    refCloth_ok w.sl w.ch w.wh n (h.y (by omega) (by omega) (by omega) (by omega) (by omega) (by omega) (by omega) (by omega))
  have fq : ∀ a : Nat, a ≤ 10000000001 → (∀ i : Nat, i < a → decide (c ≤ clothV w.sl w.ch w.wh i) = false) → (a < 10000000001 → decide (c ≤ clothV w.sl w.ch w.wh a) = true) → w.need c = a := fun a h1 h2 h3 => firstP_eq h1 h2 h3
  clear g1 g2 g3 g4
  unfold WarpA.av
  refine lim_by (fn := a41) (k := 2) (res := [.tmp 4, .tmp 5]) rfl rfl rfl (by simp -implicitDefEqProofs (maxSteps := 2000000) (disch := first | exact tt_rfl rfl | omega | (simp only [go_sem] <;> omega) | fail) only [go_sem]) ?_
  simp -implicitDefEqProofs (maxSteps := 2000000) (disch := first | exact tt_rfl rfl | omega | (simp only [go_sem] <;> omega) | fail) only [go_sem]
  repeat (first | apply Wp.seqA | apply Wp.skipS | apply Wp.blockS | ((first | apply Wp.regS | apply Wp.condV | apply Wp.reg | apply Wp.condW | apply fin_ret); simp -implicitDefEqProofs (maxSteps := 2000000) (disch := first | exact tt_rfl rfl | omega | (simp only [go_sem] <;> omega) | fail) only [go_sem] <;> try with_reducible rfl) | apply Wp.block | apply Wp.exitS | apply Wp.retS | apply Wp.exit | apply Wp.ret | apply Wp.skip)
  apply Wp.loopM (fun k fr => ∃ a b : Nat, fr = ⟨[(1, iv c), (2, .ptr 128 0 0), (6, iv a), (7, iv b)], [(128, .box [iv w.ll, iv w.lh, iv w.sl, iv w.sh, iv w.cl, iv w.ch, iv w.wl, iv w.wh])], [], 10000000⟩ ∧ k = b - a ∧ a ≤ b ∧ b ≤ 10000000001 ∧
    (∀ i : Nat, i < a → decide (c ≤ clothV w.sl w.ch w.wh i) = false) ∧ (b < 10000000001 → decide (c ≤ clothV w.sl w.ch w.wh b) = true))
  · simp -implicitDefEqProofs (maxSteps := 2000000) (disch := first | exact tt_rfl rfl | omega | (simp only [go_sem] <;> omega) | fail) only [go_sem, norm_eq, Ok.some]
    exact ⟨_, 0, 10000000001, rfl, rfl, by omega, by omega, fun i h => by omega, fun h => by omega⟩
  rintro k fr ⟨a, b, rfl, rfl, hab, hbN, h1, h2⟩
  by_cases hl : a < b
  · have hc := hp ((a + b) / 2) (by omega)
    have hf := half_div a b
    have hm1 : a ≤ (a + b) / 2 := by omega
    have hm2 : (a + b) / 2 < b := by omega
    generalize (a + b) / 2 = m at hc hf hm1 hm2
    by_cases hb : c ≤ clothV w.sl w.ch w.wh m
    · repeat (first | apply Wp.seqA | apply Wp.skipS | apply Wp.blockS | ((first | apply Wp.regS | apply Wp.condV | apply Wp.reg | apply Wp.condW | apply fin_ret); simp -implicitDefEqProofs (maxSteps := 2000000) (disch := first | exact tt_rfl rfl | omega | (simp only [go_sem] <;> omega) | fail) only [go_sem, hl, Int.ofNat_lt, hf, hc, hb, ge_iff_le] <;> try with_reducible rfl) | apply Wp.block | apply Wp.exitS | apply Wp.retS | apply Wp.exit | apply Wp.ret | apply Wp.skip)
      apply round_next (Q := fun _ _ => False)
      · simp -implicitDefEqProofs (maxSteps := 2000000) (disch := first | exact tt_rfl rfl | omega | (simp only [go_sem] <;> omega) | fail) only [go_sem, norm_eq, Ok.some]; with_reducible rfl
      exact ⟨m - a, by omega, a, m, rfl, rfl, by omega, by omega, h1, fun g => decide_eq_true hb⟩
    · repeat (first | apply Wp.seqA | apply Wp.skipS | apply Wp.blockS | ((first | apply Wp.regS | apply Wp.condV | apply Wp.reg | apply Wp.condW | apply fin_ret); simp -implicitDefEqProofs (maxSteps := 2000000) (disch := first | exact tt_rfl rfl | omega | (simp only [go_sem] <;> omega) | fail) only [go_sem, hl, Int.ofNat_lt, hf, hc, hb, ge_iff_le] <;> try with_reducible rfl) | apply Wp.block | apply Wp.exitS | apply Wp.retS | apply Wp.exit | apply Wp.ret | apply Wp.skip)
      apply round_next (Q := fun _ _ => False)
      · simp -implicitDefEqProofs (maxSteps := 2000000) (disch := first | exact tt_rfl rfl | omega | (simp only [go_sem] <;> omega) | fail) only [go_sem, norm_eq, Ok.some]; with_reducible rfl
      refine ⟨b - (m + 1), by omega, m + 1, b, by simp, rfl, by omega, by omega, fun i hi => ?_, h2⟩
      by_cases e : i = m
      · subst e; exact decide_eq_false hb
      · cases hpi : decide (c ≤ clothV w.sl w.ch w.wh i) with
        | false => rfl
        | true => have := mono i m (by omega) (by omega) hpi; rw [decide_eq_false hb] at this; cases this
  · obtain rfl : a = b := by omega
    rw [fq a (by omega) h1 h2]
    by_cases hd : a ≤ 10000000000
    · repeat (first | apply Wp.seqA | apply Wp.skipS | apply Wp.blockS | ((first | apply Wp.regS | apply Wp.condV | apply Wp.reg | apply Wp.condW | apply fin_ret); simp -implicitDefEqProofs (maxSteps := 2000000) (disch := first | exact tt_rfl rfl | omega | (simp only [go_sem] <;> omega) | fail) only [go_sem, Int.lt_irrefl, show (a : Int) ≤ 10000000000 by omega] <;> try with_reducible rfl) | apply Wp.block | apply Wp.exitS | apply Wp.retS | apply Wp.exit | apply Wp.ret | apply Wp.skip)
      rw [decide_eq_true hd]
    · repeat (first | apply Wp.seqA | apply Wp.skipS | apply Wp.blockS | ((first | apply Wp.regS | apply Wp.condV | apply Wp.reg | apply Wp.condW | apply fin_ret); simp -implicitDefEqProofs (maxSteps := 2000000) (disch := first | exact tt_rfl rfl | omega | (simp only [go_sem] <;> omega) | fail) only [go_sem, Int.lt_irrefl, show ¬ (a : Int) ≤ 10000000000 by omega] <;> try with_reducible rfl) | apply Wp.block | apply Wp.exitS | apply Wp.retS | apply Wp.exit | apply Wp.ret | apply Wp.skip)
      rw [decide_eq_false hd]
end Go.Abs
