/-
  Chapter 7: the errors of Show; the statement SeamShows returns true.
-/
import Derived.Test.YtfokmdhmaabegaaS14
set_option linter.all false
namespace Go.Abs
set_option maxRecDepth 10000
set_option maxHeartbeats 1000000

theorem Show_err (a b : List Part) (ts : List Int) (edge ahead e : Int) (hts : ts.length ≤ 1000) (h1 : openE a b ts ≠ 0 → e = openE a b ts) (h2 : openE a b ts = 0 → ¬ (0 ≤ edge ∧ edge ≤ (widthsL a).length) → e = 3)
    (h3 : openE a b ts = 0 → 0 ≤ edge → edge ≤ (widthsL a).length → e = 7 ∧ ¬ ((at' (openL a b ts) edge.toNat).lo ≤ ahead ∧ ahead ≤ (at' (openL a b ts) edge.toNat).hi)) :
    lim F 37 [.list 3 (a.map Part.av), .list 3 (b.map Part.av), .list 1 (ts.map fun n => iv n), iv edge, iv ahead] = some (.tuple [.agg [.own 1 [], .own 1 []], iv e], []) := by
  have h := open_ok a b ts hts
  simp only [PairL.av] at h
  by_cases o : openE a b ts = 0
  · obtain ⟨p0, hall, _, _, hgood, hol⟩ := openE_zero o
    obtain ⟨ha, hb, la, lb, n200, wda, wdb, oa, ob, om, sm, lm, pa, ca, cb, ab⟩ := pairOk (ts := ts) p0
    have h2 := h2 o
    have h3 := h3 o
    rw [o] at h
    simp only [pa] at h
    have hw := within_ok 0 (widthsL a).length [edge] (by simp)
    simp only [List.map_cons, List.map_nil, List.all_cons, List.all_nil, Bool.and_true] at hw
    by_cases c : 0 ≤ edge ∧ edge ≤ (widthsL a).length
    · rw [decide_eq_true c] at hw
      obtain ⟨rfl, h4⟩ := h3 c.1 c.2
      have hge : (openL a b ts)[edge.toNat]? = some (at' (openL a b ts) edge.toNat) := at'_eq (by rw [hol]; simp; omega)
      have hel : edge < (openL a b ts).length := by rw [hol]; simp; omega
      have hhas := has_ok (at' (openL a b ts) edge.toNat).lo (at' (openL a b ts) edge.toNat).hi ahead
      rw [decide_eq_false h4] at hhas
      have hc := c.1
      refine lim_by (fn := a37) (k := 5) (res := [.cell 10 2 true, .tmp 11]) rfl rfl rfl (by simp -implicitDefEqProofs (maxSteps := 2000000) (disch := first | exact tt_rfl rfl | omega | (simp only [go_sem] <;> omega) | fail) only [go_sem]) ?_
      simp -implicitDefEqProofs (maxSteps := 2000000) (disch := first | exact tt_rfl rfl | omega | (simp only [go_sem] <;> omega) | fail) only [go_sem]
      repeat (first | apply Wp.seqA | apply Wp.skipS | apply Wp.blockS | ((first | apply Wp.regS | apply Wp.condV | apply Wp.reg | apply Wp.condW | apply fin_ret); simp -implicitDefEqProofs (maxSteps := 2000000) (disch := first | exact tt_rfl rfl | omega | (simp only [go_sem] <;> omega) | fail) only [go_sem, h, hw, hge, hhas, hel, hc, List.getElem?_map, Option.map_some, Span.av.eq_1, lm, lb] <;> try with_reducible rfl) | apply Wp.block | apply Wp.exitS | apply Wp.retS | apply Wp.exit | apply Wp.ret | apply Wp.skip)
    · rw [decide_eq_false c] at hw
      obtain rfl := h2 c
      refine lim_by (fn := a37) (k := 5) (res := [.cell 10 2 true, .tmp 11]) rfl rfl rfl (by simp -implicitDefEqProofs (maxSteps := 2000000) (disch := first | exact tt_rfl rfl | omega | (simp only [go_sem] <;> omega) | fail) only [go_sem]) ?_
      simp -implicitDefEqProofs (maxSteps := 2000000) (disch := first | exact tt_rfl rfl | omega | (simp only [go_sem] <;> omega) | fail) only [go_sem]
      repeat (first | apply Wp.seqA | apply Wp.skipS | apply Wp.blockS | ((first | apply Wp.regS | apply Wp.condV | apply Wp.reg | apply Wp.condW | apply fin_ret); simp -implicitDefEqProofs (maxSteps := 2000000) (disch := first | exact tt_rfl rfl | omega | (simp only [go_sem] <;> omega) | fail) only [go_sem, h, hw, lm, lb] <;> try with_reducible rfl) | apply Wp.block | apply Wp.exitS | apply Wp.retS | apply Wp.exit | apply Wp.ret | apply Wp.skip)
  · obtain rfl := h1 o
    have e : openL a b ts = [] := by simp [openL, o]
    rw [e] at h
    refine lim_by (fn := a37) (k := 5) (res := [.cell 10 2 true, .tmp 11]) rfl rfl rfl (by simp -implicitDefEqProofs (maxSteps := 2000000) (disch := first | exact tt_rfl rfl | omega | (simp only [go_sem] <;> omega) | fail) only [go_sem]) ?_
    simp -implicitDefEqProofs (maxSteps := 2000000) (disch := first | exact tt_rfl rfl | omega | (simp only [go_sem] <;> omega) | fail) only [go_sem]
    repeat (first | apply Wp.seqA | apply Wp.skipS | apply Wp.blockS | ((first | apply Wp.regS | apply Wp.condV | apply Wp.reg | apply Wp.condW | apply fin_ret); simp -implicitDefEqProofs (maxSteps := 2000000) (disch := first | exact tt_rfl rfl | omega | (simp only [go_sem] <;> omega) | fail) only [go_sem, h, o] <;> try with_reducible rfl) | apply Wp.block | apply Wp.exitS | apply Wp.retS | apply Wp.exit | apply Wp.ret | apply Wp.skip)
end Go.Abs
