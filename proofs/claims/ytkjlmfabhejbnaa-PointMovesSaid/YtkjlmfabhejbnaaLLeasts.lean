/-
  PointLeasts: the least repeat of any design, or the error, is what the document says.
-/
import Derived.Test.YtkjlmfabhejbnaaL1
import Derived.Test.YtkjlmfabhejbnaaR1
import Derived.Test.YtkjlmfabhejbnaaKnown
set_option linter.all false
namespace Go.Abs
set_option maxRecDepth 10000
set_option maxHeartbeats 4000000

theorem own_same (d : DesA) : sameT d d = true := by unfold sameT; simp
theorem tabN_get (d : DesN) {i : Nat} (h : i < d.rows.length) : (tabN d d.rows.length).getD i [] = pickR d i := by
  unfold tabN pickR ptsT
  rw [List.take_length, List.getD_eq_getElem?_getD, List.getElem?_map, List.getElem?_eq_getElem h, rows_get h]; rfl
theorem tabN_len (d : DesN) : (tabN d d.rows.length).length = d.rows.length := by simp [tabN]
theorem tabN_all (d : DesN) : ∀ l ∈ tabN d d.rows.length, l.length = d.hk := by
  intro l hl
  unfold tabN at hl
  obtain ⟨r, _, rfl⟩ := List.mem_map.1 hl
  simp [ptsT]
theorem overT_get (d : DesN) {h : Nat} (hh : h < d.hk) : (overT (tabN d d.rows.length) d.hk).getD h [] = hookR d h := by
  unfold overT
  rw [List.getD_eq_getElem?_getD, List.getElem?_map, List.getElem?_range hh]
  unfold tabN hookR
  rw [List.take_length]
  simp only [Option.map_some, Option.getD_some, List.map_map]
  refine List.map_congr_left fun r _ => ?_
  simp [Function.comp, ptsT, List.getD_eq_getElem?_getD, List.getElem?_map, List.getElem?_range hh]
theorem wholeR_congr {R R' : Nat → List Bool} {n k : Nat} (h : ∀ i, i < n → R i = R' i) (hk : 1 ≤ k) : wholeR R n k = wholeR R' n k := by
  unfold wholeR
  rw [Bool.eq_iff_iff, List.all_eq_true, List.all_eq_true]
  constructor
  all_goals
    intro hx i hi
    have h1 := hx i hi
    have h2 := List.mem_range.1 hi
    have h3 : i % k < n := by have := Nat.mod_le i k; omega
    simp only [decide_eq_true_eq] at *
    first | rw [← h i h2, ← h _ h3]; exact h1 | rw [h i h2, h _ h3]; exact h1
theorem perT_whole {R R' : Nat → List Bool} {n : Nat} (h : ∀ i, i < n → R i = R' i) : perT n (wholeR R n) = perT n (wholeR R' n) :=
  perT_congr fun k h1 _ _ => wholeR_congr h h1

theorem pointLeasts_ok (d : DesA) : lim F 6 [d.av] = some (.bool true, []) := by
  have kn := known_ok
  have hL : lim F 14 [.list 2 [d.av]] = some (.bool (largeT [d]), []) := large_ok [d] (by simp)
  by_cases h0 : 70 < d.rows.length
  · rw [show largeT [d] = true by simp [largeT, h0]] at hL
    unfold DesA.av at *
    refine lim_by (fn := a6) (k := 1) (res := [.tmp 2]) rfl rfl rfl (by simp -implicitDefEqProofs (maxSteps := 2000000) (disch := first | exact tt_rfl rfl | omega | (simp only [go_sem] <;> omega) | fail) only [go_sem]) ?_
    simp -implicitDefEqProofs (maxSteps := 2000000) (disch := first | exact tt_rfl rfl | omega | (simp only [go_sem] <;> omega) | fail) only [go_sem]
    repeat (first | apply Wp.seqA | apply Wp.skipS | apply Wp.blockS | ((first | apply Wp.regS | apply Wp.condV | apply Wp.reg | apply Wp.condW | apply fin_ret); simp -implicitDefEqProofs (maxSteps := 2000000) (disch := first | exact tt_rfl rfl | omega | (simp only [go_sem] <;> omega) | fail) only [go_sem, hL, kn] <;> try with_reducible rfl) | apply Wp.block | apply Wp.exitS | apply Wp.retS | apply Wp.exit | apply Wp.ret | apply Wp.skip)
  rw [show largeT [d] = false by simp [largeT, h0]] at hL
  have ho := own_ok d (by omega)
  have hs := Same_ok d d (by omega)
  have hr := refCheck_ok d (by omega)
  rw [own_same] at hs
  by_cases hc : checkD d = 0
  · obtain ⟨n, hn, rfl⟩ := checkD_zero hc
    have h24 := hn.h24
    have h1 := hn.h1
    have hr1 := hn.r1
    have hr60 := hn.r60
    rw [hc] at hr
    have hlst := Least_ok n hn
    have hT := Table_ok n hn
    have hO := Over_ok (tabN n n.rows.length) n.hk (by rw [tabN_len]; omega) (tabN_all n) (by rw [tabN_len]; omega) (by omega)
    have h2 := refLeast_ok (tabN n n.rows.length) n.hk (by rw [tabN_len]; omega) (tabN_all n) (by rw [tabN_len]; omega) (by omega)
    have hol : (overT (tabN n n.rows.length) n.hk).length = n.hk := by simp [overT]
    have h3 := refLeast_ok (overT (tabN n n.rows.length) n.hk) n.rows.length (by rw [hol]; omega) (fun l hl => by
      unfold overT at hl
      obtain ⟨r, _, rfl⟩ := List.mem_map.1 hl
      simp [tabN_len]) (by rw [hol]; omega) (by omega)
    rw [hol, perT_whole (fun i hi => overT_get n hi), ← leastH_eq hn] at h3
    rw [tabN_len, perT_whole (fun i hi => tabN_get n hi), ← leastP_eq hn] at h2
    rw [DesN.a_av n] at hL hs hr ho
    rw [DesN.a_av n]
    generalize tabV (tabN n n.rows.length) = t1 at *
    generalize tabV (overT (tabN n n.rows.length) n.hk) = t2 at *
    have eo : n.a.rows.map (fun n => iv n) = n.rows.map fun n : Nat => iv (n : Int) := by
      unfold DesN.a; rw [List.map_map]; rfl
    rw [eo] at ho
    have eh : n.a.hk = (n.hk : Int) := rfl
    rw [eh] at ho
    unfold DesN.av at *
    have hp := nat_plain n.rows
    generalize n.rows.map (fun n : Nat => iv (n : Int)) = es at *
    generalize leastP n = a at *
    generalize leastH n = b at *
    refine lim_by (fn := a6) (k := 1) (res := [.tmp 2]) rfl rfl rfl (by simp -implicitDefEqProofs (maxSteps := 2000000) (disch := first | exact tt_rfl rfl | omega | (simp only [go_sem] <;> omega) | fail) only [go_sem]) ?_
    simp -implicitDefEqProofs (maxSteps := 2000000) (disch := first | exact tt_rfl rfl | omega | (simp only [go_sem] <;> omega) | fail) only [go_sem]
    repeat (first | apply Wp.seqA | apply Wp.skipS | apply Wp.blockS | ((first | apply Wp.regS | apply Wp.condV | apply Wp.reg | apply Wp.condW | apply fin_ret); simp -implicitDefEqProofs (maxSteps := 2000000) (disch := first | exact tt_rfl rfl | omega | (simp only [go_sem] <;> omega) | fail) only [go_sem, hL, ho, hlst, hs, hr, hT, hO, h2, h3, kn, hp] <;> try with_reducible rfl) | apply Wp.block | apply Wp.exitS | apply Wp.retS | apply Wp.exit | apply Wp.ret | apply Wp.skip)
  · have hlst := Least_bad d (by omega) hc
    unfold DesA.av at *
    generalize checkD d = c at *
    refine lim_by (fn := a6) (k := 1) (res := [.tmp 2]) rfl rfl rfl (by simp -implicitDefEqProofs (maxSteps := 2000000) (disch := first | exact tt_rfl rfl | omega | (simp only [go_sem] <;> omega) | fail) only [go_sem]) ?_
    simp -implicitDefEqProofs (maxSteps := 2000000) (disch := first | exact tt_rfl rfl | omega | (simp only [go_sem] <;> omega) | fail) only [go_sem]
    repeat (first | apply Wp.seqA | apply Wp.skipS | apply Wp.blockS | ((first | apply Wp.regS | apply Wp.condV | apply Wp.reg | apply Wp.condW | apply fin_ret); simp -implicitDefEqProofs (maxSteps := 2000000) (disch := first | exact tt_rfl rfl | omega | (simp only [go_sem] <;> omega) | fail) only [go_sem, hL, ho, hlst, hs, hr, hc, kn] <;> try with_reducible rfl) | apply Wp.block | apply Wp.exitS | apply Wp.retS | apply Wp.exit | apply Wp.ret | apply Wp.skip)
end Go.Abs
