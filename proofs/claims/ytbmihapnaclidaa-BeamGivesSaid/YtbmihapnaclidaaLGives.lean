/-
  BeamGives: what it looks at is so, for every warp and every cloth.
-/
import Derived.Test.YtbmihapnaclidaaW2
import Derived.Test.YtbmihapnaclidaaKnown
set_option linter.all false
namespace Go.Abs
set_option maxRecDepth 10000
set_option maxHeartbeats 4000000

theorem beamGives_ok (w : WarpA) (c : Int) : lim F 6 [w.av, iv c] = some (.bool true, []) := by
  have kn := known_ok
  have h0 := Warp_ok w
  have h1 := Gives_ok w
  have h2 := Need_ok w c
  have h3 := refWarp_ok w
  have h5 := refIn_ok c 0 10000000000
  by_cases h : w.Ok
  · have e : warpE w = 0 := if_pos h
    have h4 := refGives_ok w h
    have h6 := refNeed_ok w h c
    rw [e] at h0 h1
    rw [if_pos rfl, if_pos rfl] at h1
    rw [decide_eq_true h] at h3
    unfold needE at h2
    rw [if_pos h] at h2
    generalize w.low = lo at h1 h4
    generalize w.high = hi at h1 h4
    by_cases hc : 0 ≤ c ∧ c ≤ 10000000000
    · rw [if_pos hc] at h2
      generalize w.need c = m at h2 h6
      by_cases hn : m ≤ 10000000000
      · rw [if_pos hn, if_pos rfl] at h2
        unfold WarpA.av at *
        refine lim_by (fn := a6) (k := 2) (res := [.tmp 4]) rfl rfl rfl (by simp -implicitDefEqProofs (maxSteps := 2000000) (disch := first | exact tt_rfl rfl | omega | (simp only [go_sem] <;> omega) | fail) only [go_sem]) ?_
        simp -implicitDefEqProofs (maxSteps := 2000000) (disch := first | exact tt_rfl rfl | omega | (simp only [go_sem] <;> omega) | fail) only [go_sem]
        repeat (first | apply Wp.seqA | apply Wp.skipS | apply Wp.blockS | ((first | apply Wp.regS | apply Wp.condV | apply Wp.reg | apply Wp.condW | apply fin_ret); simp -implicitDefEqProofs (maxSteps := 2000000) (disch := first | exact tt_rfl rfl | omega | (simp only [go_sem] <;> omega) | fail) only [go_sem, h0, h1, h2, h3, h4, h5, h6, hc, hn, kn, beq_self_eq_true, bne_self_eq_false] <;> try with_reducible rfl) | apply Wp.block | apply Wp.exitS | apply Wp.retS | apply Wp.exit | apply Wp.ret | apply Wp.skip)
      · rw [if_neg hn, if_neg (by omega)] at h2
        unfold WarpA.av at *
        refine lim_by (fn := a6) (k := 2) (res := [.tmp 4]) rfl rfl rfl (by simp -implicitDefEqProofs (maxSteps := 2000000) (disch := first | exact tt_rfl rfl | omega | (simp only [go_sem] <;> omega) | fail) only [go_sem]) ?_
        simp -implicitDefEqProofs (maxSteps := 2000000) (disch := first | exact tt_rfl rfl | omega | (simp only [go_sem] <;> omega) | fail) only [go_sem]
        repeat (first | apply Wp.seqA | apply Wp.skipS | apply Wp.blockS | ((first | apply Wp.regS | apply Wp.condV | apply Wp.reg | apply Wp.condW | apply fin_ret); simp -implicitDefEqProofs (maxSteps := 2000000) (disch := first | exact tt_rfl rfl | omega | (simp only [go_sem] <;> omega) | fail) only [go_sem, h0, h1, h2, h3, h4, h5, h6, hc, hn, kn, beq_self_eq_true, bne_self_eq_false] <;> try with_reducible rfl) | apply Wp.block | apply Wp.exitS | apply Wp.retS | apply Wp.exit | apply Wp.ret | apply Wp.skip)
    · rw [if_neg hc, if_neg (by omega)] at h2
      unfold WarpA.av at *
      refine lim_by (fn := a6) (k := 2) (res := [.tmp 4]) rfl rfl rfl (by simp -implicitDefEqProofs (maxSteps := 2000000) (disch := first | exact tt_rfl rfl | omega | (simp only [go_sem] <;> omega) | fail) only [go_sem]) ?_
      simp -implicitDefEqProofs (maxSteps := 2000000) (disch := first | exact tt_rfl rfl | omega | (simp only [go_sem] <;> omega) | fail) only [go_sem]
      repeat (first | apply Wp.seqA | apply Wp.skipS | apply Wp.blockS | ((first | apply Wp.regS | apply Wp.condV | apply Wp.reg | apply Wp.condW | apply fin_ret); simp -implicitDefEqProofs (maxSteps := 2000000) (disch := first | exact tt_rfl rfl | omega | (simp only [go_sem] <;> omega) | fail) only [go_sem, h0, h1, h2, h3, h4, h5, hc, kn, beq_self_eq_true, bne_self_eq_false] <;> try with_reducible rfl) | apply Wp.block | apply Wp.exitS | apply Wp.retS | apply Wp.exit | apply Wp.ret | apply Wp.skip)
  · have e : warpE w = 2 := if_neg h
    rw [e] at h0 h1
    rw [if_neg (by omega), if_neg (by omega)] at h1
    rw [decide_eq_false h] at h3
    unfold needE at h2
    rw [if_neg h, if_neg (by omega)] at h2
    unfold WarpA.av at *
    refine lim_by (fn := a6) (k := 2) (res := [.tmp 4]) rfl rfl rfl (by simp -implicitDefEqProofs (maxSteps := 2000000) (disch := first | exact tt_rfl rfl | omega | (simp only [go_sem] <;> omega) | fail) only [go_sem]) ?_
    simp -implicitDefEqProofs (maxSteps := 2000000) (disch := first | exact tt_rfl rfl | omega | (simp only [go_sem] <;> omega) | fail) only [go_sem]
    repeat (first | apply Wp.seqA | apply Wp.skipS | apply Wp.blockS | ((first | apply Wp.regS | apply Wp.condV | apply Wp.reg | apply Wp.condW | apply fin_ret); simp -implicitDefEqProofs (maxSteps := 2000000) (disch := first | exact tt_rfl rfl | omega | (simp only [go_sem] <;> omega) | fail) only [go_sem, h0, h1, h2, h3, kn, beq_self_eq_true, bne_self_eq_false] <;> try with_reducible rfl) | apply Wp.block | apply Wp.exitS | apply Wp.retS | apply Wp.exit | apply Wp.ret | apply Wp.skip)
end Go.Abs
