/-
  BeamTakes: what it looks at is so, for every take-up and every length.
-/
import Derived.Test.YtbmihapnaclidaaB2
import Derived.Test.YtbmihapnaclidaaKnown
set_option linter.all false
namespace Go.Abs
set_option maxRecDepth 10000
set_option maxHeartbeats 4000000

theorem checkT_cases (t : TakeA) : checkT t = 0 ∨ checkT t = 2 ∨ checkT t = 5 := by
  unfold checkT; repeat' split
  all_goals simp

theorem beamTakes_ok (t : TakeA) (n : Int) : lim F 3 [t.av, iv n] = some (.bool true, []) := by
  have kn := known_ok
  by_cases hl : 10 < t.pairs.length
  · unfold TakeA.av
    refine lim_by (fn := a3) (k := 2) (res := [.tmp 4]) rfl rfl rfl (by simp -implicitDefEqProofs (maxSteps := 2000000) (disch := first | exact tt_rfl rfl | omega | (simp only [go_sem] <;> omega) | fail) only [go_sem]) ?_
    simp -implicitDefEqProofs (maxSteps := 2000000) (disch := first | exact tt_rfl rfl | omega | (simp only [go_sem] <;> omega) | fail) only [go_sem]
    repeat (first | apply Wp.seqA | apply Wp.skipS | apply Wp.blockS | ((first | apply Wp.regS | apply Wp.condV | apply Wp.reg | apply Wp.condW | apply fin_ret); simp -implicitDefEqProofs (maxSteps := 2000000) (disch := first | exact tt_rfl rfl | omega | (simp only [go_sem] <;> omega) | fail) only [go_sem, hl, show (10 : Int) < t.pairs.length by omega, kn] <;> try with_reducible rfl) | apply Wp.block | apply Wp.exitS | apply Wp.retS | apply Wp.exit | apply Wp.ret | apply Wp.skip)
  · have ho := own_ok t (by omega)
    have c1 := Check_ok t
    have c2 := refCheck_ok t
    have c3 := Take_ok t
    have c4 := Picks_ok t n
    have c5 := Same_ok t (by omega)
    have c6 := refIn_ok n 0 10000000000
    by_cases h : checkT t = 0
    · have c7 := refTake_ok t h
      rw [if_pos h] at c3
      rw [h] at c1 c2 c3
      unfold takeV at c3 c7
      by_cases hn : 0 ≤ n ∧ n ≤ 10000000000
      · have c8 := refPicks_ok t n h hn
        have e : picksE t n = 0 := by unfold picksE; rw [if_pos h, if_pos hn]
        rw [e, if_pos rfl] at c4
        unfold TakeA.av at *
        refine lim_by (fn := a3) (k := 2) (res := [.tmp 4]) rfl rfl rfl (by simp -implicitDefEqProofs (maxSteps := 2000000) (disch := first | exact tt_rfl rfl | omega | (simp only [go_sem] <;> omega) | fail) only [go_sem]) ?_
        simp -implicitDefEqProofs (maxSteps := 2000000) (disch := first | exact tt_rfl rfl | omega | (simp only [go_sem] <;> omega) | fail) only [go_sem]
        repeat (first | apply Wp.seqA | apply Wp.skipS | apply Wp.blockS | ((first | apply Wp.regS | apply Wp.condV | apply Wp.reg | apply Wp.condW | apply fin_ret); simp -implicitDefEqProofs (maxSteps := 2000000) (disch := first | exact tt_rfl rfl | omega | (simp only [go_sem] <;> omega) | fail) only [go_sem, hl, show ¬ (10 : Int) < t.pairs.length by omega, kn, ho, c1, c2, c3, c4, c5, c6, c7, c8, hn, beq_self_eq_true, bne_self_eq_false] <;> try with_reducible rfl) | apply Wp.block | apply Wp.exitS | apply Wp.retS | apply Wp.exit | apply Wp.ret | apply Wp.skip)
      · have e : picksE t n = 3 := by unfold picksE; rw [if_pos h, if_neg hn]
        rw [e, if_neg (by omega)] at c4
        unfold TakeA.av at *
        refine lim_by (fn := a3) (k := 2) (res := [.tmp 4]) rfl rfl rfl (by simp -implicitDefEqProofs (maxSteps := 2000000) (disch := first | exact tt_rfl rfl | omega | (simp only [go_sem] <;> omega) | fail) only [go_sem]) ?_
        simp -implicitDefEqProofs (maxSteps := 2000000) (disch := first | exact tt_rfl rfl | omega | (simp only [go_sem] <;> omega) | fail) only [go_sem]
        repeat (first | apply Wp.seqA | apply Wp.skipS | apply Wp.blockS | ((first | apply Wp.regS | apply Wp.condV | apply Wp.reg | apply Wp.condW | apply fin_ret); simp -implicitDefEqProofs (maxSteps := 2000000) (disch := first | exact tt_rfl rfl | omega | (simp only [go_sem] <;> omega) | fail) only [go_sem, hl, show ¬ (10 : Int) < t.pairs.length by omega, kn, ho, c1, c2, c3, c4, c5, c6, c7, hn, beq_self_eq_true, bne_self_eq_false] <;> try with_reducible rfl) | apply Wp.block | apply Wp.exitS | apply Wp.retS | apply Wp.exit | apply Wp.ret | apply Wp.skip)
    · have e : picksE t n = checkT t := by unfold picksE; rw [if_neg h]
      rw [e] at c4
      rw [if_neg h] at c3
      rcases (checkT_cases t).resolve_left h with hc | hc
      all_goals
        rw [hc] at c1 c2 c3 c4
        rw [if_neg (by omega)] at c4
        unfold TakeA.av at *
        refine lim_by (fn := a3) (k := 2) (res := [.tmp 4]) rfl rfl rfl (by simp -implicitDefEqProofs (maxSteps := 2000000) (disch := first | exact tt_rfl rfl | omega | (simp only [go_sem] <;> omega) | fail) only [go_sem]) ?_
        simp -implicitDefEqProofs (maxSteps := 2000000) (disch := first | exact tt_rfl rfl | omega | (simp only [go_sem] <;> omega) | fail) only [go_sem]
        repeat (first | apply Wp.seqA | apply Wp.skipS | apply Wp.blockS | ((first | apply Wp.regS | apply Wp.condV | apply Wp.reg | apply Wp.condW | apply fin_ret); simp -implicitDefEqProofs (maxSteps := 2000000) (disch := first | exact tt_rfl rfl | omega | (simp only [go_sem] <;> omega) | fail) only [go_sem, hl, show ¬ (10 : Int) < t.pairs.length by omega, kn, ho, c1, c2, c3, c4, c5] <;> try with_reducible rfl) | apply Wp.block | apply Wp.exitS | apply Wp.retS | apply Wp.exit | apply Wp.ret | apply Wp.skip)
end Go.Abs
