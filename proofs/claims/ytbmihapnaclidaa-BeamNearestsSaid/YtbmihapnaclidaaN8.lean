/-
  Chapter 6: Nearest's errors. No condition beyond those that each theorem names.
-/
import Derived.Test.YtbmihapnaclidaaN6
import Derived.Test.YtbmihapnaclidaaN7
set_option linter.all false
namespace Go.Abs
set_option maxRecDepth 10000
set_option maxHeartbeats 8000000

abbrev TeethOk (shop : List Int) : Prop := ∀ n ∈ shop, 1 ≤ n ∧ n ≤ 100
/-- the error of Nearest -/
def nearE (t : TakeA) (shop : List Int) (wn wd pairs : Int) : Int :=
  if checkT t = 0 then if shop.length ≤ 8 then if TeethOk shop ∧ WantOk wn wd then if 0 ≤ pairs ∧ pairs ≤ 2 then 0 else 3 else 2 else 5 else checkT t
theorem teeth_all (shop : List Int) : (shop.all fun n => decide (1 ≤ n ∧ n ≤ 100)) = decide (TeethOk shop) := by
  by_cases h : TeethOk shop
  · rw [decide_eq_true h]; exact List.all_eq_true.2 fun n hn => decide_eq_true (h n hn)
  · rw [decide_eq_false h]
    rw [← Bool.not_eq_true]
    intro e
    exact h fun n hn => of_decide_eq_true (List.all_eq_true.1 e n hn)
theorem Nearest_err (t : TakeA) (shop : List Int) (wn wd pairs : Int) (hl : shop.length ≤ 100) (h : nearE t shop wn wd pairs ≠ 0) : lim F 24 [t.av, .list 1 (shop.map fun n => iv n), .agg [iv wn, iv wd], iv pairs] = some (.tuple [.own 1 [], .agg [iv 0, iv 0], iv (nearE t shop wn wd pairs)], []) := by
  have c1 := Check_ok t
  have c2 := teeth_ok shop (by omega)
  rw [teeth_all] at c2
  have c3 := within_ok 1 1000000 [wn] (by simp)
  have c4 := teeth_ok [wd] (by simp)
  have c5 := within_ok 0 2 [pairs] (by simp)
  simp only [List.map_cons, List.map_nil, List.all_cons, List.all_nil, Bool.and_true] at c3 c4 c5
  have hsl : (shop.map fun n => iv n).length = shop.length := by simp
  unfold nearE at *
  unfold TakeA.av at *
  by_cases hc : checkT t = 0
  · rw [if_pos hc] at h ⊢
    rw [hc] at c1
    by_cases h8 : shop.length ≤ 8
    · rw [if_pos h8] at h ⊢
      by_cases ht : TeethOk shop
      · rw [decide_eq_true ht] at c2
        by_cases h1 : 1 ≤ wn ∧ wn ≤ 1000000
        · rw [decide_eq_true h1] at c3
          by_cases h2 : 1 ≤ wd ∧ wd ≤ 100
          · rw [decide_eq_true h2] at c4
            rw [if_pos ⟨ht, h1, h2⟩] at h ⊢
            have hp : ¬ (0 ≤ pairs ∧ pairs ≤ 2) := fun hh => h (if_pos hh)
            rw [if_neg hp]
            rw [decide_eq_false hp] at c5
            refine lim_by (fn := a24) (k := 4) (res := [.tmp 8, .cell 9 2 true, .tmp 10]) rfl rfl rfl (by simp -implicitDefEqProofs (maxSteps := 2000000) (disch := first | exact tt_rfl rfl | omega | (simp only [go_sem] <;> omega) | fail) only [go_sem]) ?_
            simp -implicitDefEqProofs (maxSteps := 2000000) (disch := first | exact tt_rfl rfl | omega | (simp only [go_sem] <;> omega) | fail) only [go_sem]
            repeat (first | apply Wp.seqA | apply Wp.skipS | apply Wp.blockS | ((first | apply Wp.regS | apply Wp.condV | apply Wp.reg | apply Wp.condW | apply fin_ret); simp -implicitDefEqProofs (maxSteps := 2000000) (disch := first | exact tt_rfl rfl | omega | (simp only [go_sem] <;> omega) | fail) only [go_sem, c1, c2, c3, c4, c5, hsl, show ¬ (8 : Int) < shop.length by omega, gt_iff_lt] <;> try with_reducible rfl) | apply Wp.block | apply Wp.exitS | apply Wp.retS | apply Wp.exit | apply Wp.ret | apply Wp.skip)
          · rw [decide_eq_false h2] at c4
            rw [if_neg fun hh => h2 hh.2.2]
            refine lim_by (fn := a24) (k := 4) (res := [.tmp 8, .cell 9 2 true, .tmp 10]) rfl rfl rfl (by simp -implicitDefEqProofs (maxSteps := 2000000) (disch := first | exact tt_rfl rfl | omega | (simp only [go_sem] <;> omega) | fail) only [go_sem]) ?_
            simp -implicitDefEqProofs (maxSteps := 2000000) (disch := first | exact tt_rfl rfl | omega | (simp only [go_sem] <;> omega) | fail) only [go_sem]
            repeat (first | apply Wp.seqA | apply Wp.skipS | apply Wp.blockS | ((first | apply Wp.regS | apply Wp.condV | apply Wp.reg | apply Wp.condW | apply fin_ret); simp -implicitDefEqProofs (maxSteps := 2000000) (disch := first | exact tt_rfl rfl | omega | (simp only [go_sem] <;> omega) | fail) only [go_sem, c1, c2, c3, c4, hsl, show ¬ (8 : Int) < shop.length by omega, gt_iff_lt] <;> try with_reducible rfl) | apply Wp.block | apply Wp.exitS | apply Wp.retS | apply Wp.exit | apply Wp.ret | apply Wp.skip)
        · rw [decide_eq_false h1] at c3
          rw [if_neg fun hh => h1 hh.2.1]
          refine lim_by (fn := a24) (k := 4) (res := [.tmp 8, .cell 9 2 true, .tmp 10]) rfl rfl rfl (by simp -implicitDefEqProofs (maxSteps := 2000000) (disch := first | exact tt_rfl rfl | omega | (simp only [go_sem] <;> omega) | fail) only [go_sem]) ?_
          simp -implicitDefEqProofs (maxSteps := 2000000) (disch := first | exact tt_rfl rfl | omega | (simp only [go_sem] <;> omega) | fail) only [go_sem]
          repeat (first | apply Wp.seqA | apply Wp.skipS | apply Wp.blockS | ((first | apply Wp.regS | apply Wp.condV | apply Wp.reg | apply Wp.condW | apply fin_ret); simp -implicitDefEqProofs (maxSteps := 2000000) (disch := first | exact tt_rfl rfl | omega | (simp only [go_sem] <;> omega) | fail) only [go_sem, c1, c2, c3, hsl, show ¬ (8 : Int) < shop.length by omega, gt_iff_lt] <;> try with_reducible rfl) | apply Wp.block | apply Wp.exitS | apply Wp.retS | apply Wp.exit | apply Wp.ret | apply Wp.skip)
      · rw [decide_eq_false ht] at c2
        rw [if_neg fun hh => ht hh.1]
        refine lim_by (fn := a24) (k := 4) (res := [.tmp 8, .cell 9 2 true, .tmp 10]) rfl rfl rfl (by simp -implicitDefEqProofs (maxSteps := 2000000) (disch := first | exact tt_rfl rfl | omega | (simp only [go_sem] <;> omega) | fail) only [go_sem]) ?_
        simp -implicitDefEqProofs (maxSteps := 2000000) (disch := first | exact tt_rfl rfl | omega | (simp only [go_sem] <;> omega) | fail) only [go_sem]
        repeat (first | apply Wp.seqA | apply Wp.skipS | apply Wp.blockS | ((first | apply Wp.regS | apply Wp.condV | apply Wp.reg | apply Wp.condW | apply fin_ret); simp -implicitDefEqProofs (maxSteps := 2000000) (disch := first | exact tt_rfl rfl | omega | (simp only [go_sem] <;> omega) | fail) only [go_sem, c1, c2, hsl, show ¬ (8 : Int) < shop.length by omega, gt_iff_lt] <;> try with_reducible rfl) | apply Wp.block | apply Wp.exitS | apply Wp.retS | apply Wp.exit | apply Wp.ret | apply Wp.skip)
    · rw [if_neg h8]
      refine lim_by (fn := a24) (k := 4) (res := [.tmp 8, .cell 9 2 true, .tmp 10]) rfl rfl rfl (by simp -implicitDefEqProofs (maxSteps := 2000000) (disch := first | exact tt_rfl rfl | omega | (simp only [go_sem] <;> omega) | fail) only [go_sem]) ?_
      simp -implicitDefEqProofs (maxSteps := 2000000) (disch := first | exact tt_rfl rfl | omega | (simp only [go_sem] <;> omega) | fail) only [go_sem]
      repeat (first | apply Wp.seqA | apply Wp.skipS | apply Wp.blockS | ((first | apply Wp.regS | apply Wp.condV | apply Wp.reg | apply Wp.condW | apply fin_ret); simp -implicitDefEqProofs (maxSteps := 2000000) (disch := first | exact tt_rfl rfl | omega | (simp only [go_sem] <;> omega) | fail) only [go_sem, c1, hsl, show (8 : Int) < shop.length by omega, gt_iff_lt] <;> try with_reducible rfl) | apply Wp.block | apply Wp.exitS | apply Wp.retS | apply Wp.exit | apply Wp.ret | apply Wp.skip)
  · rw [if_neg hc]
    refine lim_by (fn := a24) (k := 4) (res := [.tmp 8, .cell 9 2 true, .tmp 10]) rfl rfl rfl (by simp -implicitDefEqProofs (maxSteps := 2000000) (disch := first | exact tt_rfl rfl | omega | (simp only [go_sem] <;> omega) | fail) only [go_sem]) ?_
    simp -implicitDefEqProofs (maxSteps := 2000000) (disch := first | exact tt_rfl rfl | omega | (simp only [go_sem] <;> omega) | fail) only [go_sem]
    repeat (first | apply Wp.seqA | apply Wp.skipS | apply Wp.blockS | ((first | apply Wp.regS | apply Wp.condV | apply Wp.reg | apply Wp.condW | apply fin_ret); simp -implicitDefEqProofs (maxSteps := 2000000) (disch := first | exact tt_rfl rfl | omega | (simp only [go_sem] <;> omega) | fail) only [go_sem, c1, hc] <;> try with_reducible rfl) | apply Wp.block | apply Wp.exitS | apply Wp.retS | apply Wp.exit | apply Wp.ret | apply Wp.skip)
end Go.Abs
