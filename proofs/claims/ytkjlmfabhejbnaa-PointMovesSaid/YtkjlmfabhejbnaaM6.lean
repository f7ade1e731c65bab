/-
  Changed designs, in plain Lean: no program in sight.
-/
import Derived.Test.YtkjlmfabhejbnaaR5
import Derived.Test.YtkjlmfabhejbnaaV2
import Derived.Test.YtkjlmfabhejbnaaLLeasts
set_option linter.all false
namespace Go.Abs
set_option maxRecDepth 10000

theorem rowOf_rowTo (l : List Bool) : rowOf l = rowTo (fun j => l.getD j false) l.length := row_eq (rowOf_lt _) (rowTo_lt _ _) fun j hj => by
  rw [rowOf_bit, rowTo_bit, decide_eq_true hj, Bool.true_and]
theorem ptsT_getD {r n j : Nat} (h : j < n) : (ptsT r n).getD j false = r.testBit j := by
  unfold ptsT
  rw [List.getD_eq_getElem?_getD, List.getElem?_map, List.getElem?_range h]; rfl
theorem ptsT_len (r n : Nat) : (ptsT r n).length = n := by simp [ptsT]
theorem tabN_row (d : DesN) {i : Nat} (h : i < d.rows.length) : (tabN d d.rows.length).getD i [] = ptsT (d.rows.getD i 0) d.hk := by
  unfold tabN
  rw [List.take_length, List.getD_eq_getElem?_getD, List.getElem?_map, List.getElem?_eq_getElem h, rows_get h]; rfl
theorem atN_in {d : DesN} {p h : Nat} (hp : p < d.rows.length) (hh : h < d.hk) : atN d p h = (d.rows.getD p 0).testBit h := by
  unfold atN; rw [Nat.mod_eq_of_lt hp, Nat.mod_eq_of_lt hh]
theorem mirror_eq {d : DesN} (hd : d.Ok) : (mirrorN d).rows = (mirTo (tabN d d.rows.length) d.rows.length).map rowOf := by
  unfold mirrorN madeN mirTo
  rw [tabN_len, List.map_map]
  apply List.map_congr_left
  intro q hq
  have hq := List.mem_range.1 hq
  simp only [Function.comp, if_pos hq]
  rw [rowOf_rowTo, List.length_reverse, tabN_row d hq, ptsT_len]
  apply rowTo_congr
  intro j hj
  have h1 := hd.h1
  try dsimp only
  rw [atN_in hq (by omega)]
  generalize d.rows.getD q 0 = r
  rw [List.getD_eq_getElem?_getD, List.getElem?_reverse (by rw [ptsT_len]; exact hj), ptsT_len, ← List.getD_eq_getElem?_getD, ptsT_getD (by omega)]
theorem flip_eq {d : DesN} (hd : d.Ok) : (flipN d).rows = d.rows.reverse := by
  unfold flipN madeN
  apply List.ext_getElem
  · simp
  · intro q h1 h2
    have hq : q < d.rows.length := by simpa using h2
    rw [List.getElem_map, List.getElem_range, List.getElem_reverse]
    have hlt := hd.lt _ (List.getElem_mem (show d.rows.length - 1 - q < d.rows.length by omega))
    rw [← rowTo_self hlt]
    apply rowTo_congr
    intro j hj
    have hs := rowTo_self hlt
    dsimp only
    rw [atN_in (by omega) hj, rows_get (by omega)]
    try rw [hs]
theorem back_eq {d : DesN} (hd : d.Ok) : (backN d).rows = d.rows.map fun r => 2 ^ d.hk - 1 - r := by
  unfold backN madeN
  apply List.ext_getElem
  · simp
  · intro q h1 h2
    have hq : q < d.rows.length := by simpa using h2
    rw [List.getElem_map, List.getElem_range, List.getElem_map]
    have hlt := hd.lt _ (List.getElem_mem hq)
    have hp : 0 < 2 ^ d.hk := Nat.pow_pos (by omega)
    refine row_eq (rowTo_lt _ _) (by omega) fun j hj => ?_
    rw [rowTo_bit, decide_eq_true hj, Bool.true_and]
    dsimp only
    rw [atN_in hq hj, rows_get hq, show 2 ^ d.hk - 1 - d.rows[q] = 2 ^ d.hk - (d.rows[q] + 1) by omega, Nat.testBit_two_pow_sub_succ hlt, decide_eq_true hj, Bool.true_and]
theorem shift_eq {d : DesN} (hd : d.Ok) {a b : Nat} (ha : a < d.rows.length) (hb : b < d.hk) : (shiftN d a b).rows = (shTo (tabN d d.rows.length) a b d.rows.length).map rowOf := by
  unfold shiftN madeN shTo
  rw [tabN_len, List.map_map]
  apply List.map_congr_left
  intro q hq
  have hq := List.mem_range.1 hq
  have hm := Nat.mod_lt (q + d.rows.length - a) (show 0 < d.rows.length by omega)
  simp only [Function.comp]
  rw [rowOf_rowTo, turnT_len, tabN_row d hm, ptsT_len]
  apply rowTo_congr
  intro j hj
  unfold atN turnT
  try dsimp only
  generalize d.rows.getD ((q + d.rows.length - a) % d.rows.length) 0 = r
  rw [ptsT_len, List.getD_eq_getElem?_getD, List.getElem?_append]
  by_cases hjb : j < b
  · rw [if_pos (by rw [List.length_drop, ptsT_len]; omega), List.getElem?_drop, ← List.getD_eq_getElem?_getD, ptsT_getD (by omega), Nat.mod_eq_of_lt (show j + d.hk - b < d.hk by omega)]
    congr 1; omega
  · rw [if_neg (by rw [List.length_drop, ptsT_len]; omega), List.length_drop, ptsT_len, List.getElem?_take, if_pos (by omega), ← List.getD_eq_getElem?_getD, ptsT_getD (by omega), show j + d.hk - b = (j - b) + d.hk by omega, Nat.add_mod_right, Nat.mod_eq_of_lt (show j - b < d.hk by omega)]
    congr 1; omega
end Go.Abs
