/-
 Chapter 1: tables of points, as the document makes them. No condition beyond those that each theorem names.
-/
import Derived.Test.YtkjlmfabhejbnaaP2
import Derived.Test.YtkjlmfabhejbnaaM5
set_option linter.all false
namespace Go.Abs
set_option maxRecDepth 10000
set_option maxHeartbeats 2000000

def ringV (l : List Bool) : AV := .list 1 (l.map fun b => .bool b)
def tabV (t : List (List Bool)) : List AV := t.map ringV
@[go_sem] theorem bool_plain (l : List Bool) : (l.map fun b => AV.bool b).all AV.plain = true := by
 simp [AV.plain, AV.plain1]

/-- the points of a row -/
def ptsT (r n : Nat) : List Bool := (List.range n).map fun h => r.testBit h
theorem Points_ok (r n : Nat) (hr : r < 9000000000000000000) (hn : n ≤ 1000) : lim F 74 [iv (r : Int), iv (n : Int)] = some (.own 1 ((ptsT r n).map fun b => .bool b), []) := by
 refine lim_by (fn := a74) (k := 2) (res := [.tmp 4]) rfl rfl rfl (by simp -implicitDefEqProofs (maxSteps := 2000000) (disch := first | exact tt_rfl rfl | omega | (simp only [go_sem] <;> omega) | fail) only [go_sem]) ?_
 simp -implicitDefEqProofs (maxSteps := 2000000) (disch := first | exact tt_rfl rfl | omega | (simp only [go_sem] <;> omega) | fail) only [go_sem]
 repeat (first | apply Wp.seqA | apply Wp.skipS | apply Wp.blockS | ((first | apply Wp.regS | apply Wp.condV | apply Wp.reg | apply Wp.condW | apply fin_ret); simp -implicitDefEqProofs (maxSteps := 2000000) (disch := first | exact tt_rfl rfl | omega | (simp only [go_sem] <;> omega) | fail) only [go_sem] <;> try with_reducible rfl) | apply Wp.block | apply Wp.exitS | apply Wp.retS | apply Wp.exit | apply Wp.ret | apply Wp.skip)
 apply Wp.loopF n (fun i => ⟨[(0, iv ((r / 2 ^ i : Nat) : Int)), (1, iv (n : Int)), (5, .slice 320 0 i), (6, iv (i : Int))], [(320, .arr 1 ((ptsT r i).map fun b => .bool b))], [], 10000000⟩) (fun _ => True)
 ·simp -implicitDefEqProofs (maxSteps := 2000000) (disch := first | exact tt_rfl rfl | omega | (simp only [go_sem] <;> omega) | fail) only [go_sem, norm_eq, Ok.some]
  simp [ptsT]
 ·trivial
 intro i hi _
 by_cases h : i < n
 ·have hb : r / 2 ^ i ≤ r := Nat.div_le_self _ _
  have e0 : (0 : Int) ≤ ((r / 2 ^ i : Nat) : Int) := Int.natCast_nonneg _
  have e1 : Int.tmod ((r / 2 ^ i : Nat) : Int) 2 = ((r / 2 ^ i % 2 : Nat) : Int) := by rw [Int.tmod_eq_emod_of_nonneg e0]; omega
  have e2 : Int.tdiv ((r / 2 ^ i : Nat) : Int) 2 = ((r / 2 ^ (i + 1) : Nat) : Int) := by
   rw [Int.tdiv_eq_ediv_of_nonneg e0, Nat.pow_succ, ← Nat.div_div_eq_div_mul]; omega
  have hl : ((ptsT r i).map fun b => AV.bool b).length = i := by simp [ptsT]
  have e3 : (ptsT r (i + 1)).map (fun b => AV.bool b) = (ptsT r i).map (fun b => AV.bool b) ++ [.bool (decide (r / 2 ^ i % 2 = 1))] := by
   unfold ptsT
   rw [List.range_succ]
   simp [Nat.testBit_eq_decide_div_mod_eq]
  have e4 : decide (((r / 2 ^ i % 2 : Nat) : Int) = 1) = decide (r / 2 ^ i % 2 = 1) := by
   by_cases h : r / 2 ^ i % 2 = 1
   ·rw [h]; rfl
   ·rw [decide_eq_false h, decide_eq_false (by omega)]
  generalize (ptsT r i).map (fun b => AV.bool b) = es at *
  have hb' : r / 2 ^ (i + 1) ≤ r := Nat.div_le_self _ _
  generalize hq : r / 2 ^ i = q at *
  generalize hq' : r / 2 ^ (i + 1) = q' at *
  repeat (first | apply Wp.seqA | apply Wp.skipS | apply Wp.blockS | ((first | apply Wp.regS | apply Wp.condV | apply Wp.reg | apply Wp.condW | apply fin_ret); simp -implicitDefEqProofs (maxSteps := 2000000) (disch := first | exact tt_rfl rfl | omega | (simp only [go_sem] <;> omega) | fail) only [go_sem, h, Int.ofNat_lt, e1, e2, hl, e4] <;> try with_reducible rfl) | apply Wp.block | apply Wp.exitS | apply Wp.retS | apply Wp.exit | apply Wp.ret | apply Wp.skip)
  apply round_next
  ·simp -implicitDefEqProofs (maxSteps := 2000000) (disch := first | exact tt_rfl rfl | omega | (simp only [go_sem] <;> omega) | fail) only [go_sem, norm_eq, Ok.some]; with_reducible rfl
  refine ⟨h, ?_, trivial⟩
  rw [e3]
  simp
 ·obtain rfl : i = n := by omega
  have hl : ((ptsT r i).map fun b => AV.bool b).length = i := by simp [ptsT]
  have hp := bool_plain (ptsT r i)
  have etk : ((ptsT r i).map fun b => AV.bool b).take i = (ptsT r i).map fun b => AV.bool b := List.take_of_length_le (by omega)
  generalize (ptsT r i).map (fun b => AV.bool b) = es at *
  repeat (first | apply Wp.seqA | apply Wp.skipS | apply Wp.blockS | ((first | apply Wp.regS | apply Wp.condV | apply Wp.reg | apply Wp.condW | apply fin_ret); simp -implicitDefEqProofs (maxSteps := 2000000) (disch := first | exact tt_rfl rfl | omega | (simp only [go_sem] <;> omega) | fail) only [go_sem, Int.lt_irrefl, hl, hp, etk] <;> try with_reducible rfl) | apply Wp.block | apply Wp.exitS | apply Wp.retS | apply Wp.exit | apply Wp.ret | apply Wp.skip)

def tabN (d : DesN) (k : Nat) : List (List Bool) := (d.rows.take k).map fun r => ptsT r d.hk
theorem Table_ok (d : DesN) (hd : d.Ok) : lim F 34 [d.av] = some (.own 1 (tabV (tabN d d.rows.length)), []) := by
 have h1 := hd.h24
 have h2 := hd.r60
 have p1 : 2 ^ d.hk ≤ 2 ^ 24 := Nat.pow_le_pow_right (by omega) (by omega)
 unfold DesN.av
 refine lim_by (fn := a34) (k := 1) (res := [.tmp 2]) rfl rfl rfl (by simp -implicitDefEqProofs (maxSteps := 2000000) (disch := first | exact tt_rfl rfl | omega | (simp only [go_sem] <;> omega) | fail) only [go_sem]) ?_
 simp -implicitDefEqProofs (maxSteps := 2000000) (disch := first | exact tt_rfl rfl | omega | (simp only [go_sem] <;> omega) | fail) only [go_sem]
 repeat (first | apply Wp.seqA | apply Wp.skipS | apply Wp.blockS | ((first | apply Wp.regS | apply Wp.condV | apply Wp.reg | apply Wp.condW | apply fin_ret); simp -implicitDefEqProofs (maxSteps := 2000000) (disch := first | exact tt_rfl rfl | omega | (simp only [go_sem] <;> omega) | fail) only [go_sem] <;> try with_reducible rfl) | apply Wp.block | apply Wp.exitS | apply Wp.retS | apply Wp.exit | apply Wp.ret | apply Wp.skip)
 apply Wp.loopF d.rows.length (fun i => ⟨[(1, .ptr 64 0 0), (3, .slice 192 0 i), (4, iv (i : Int))], [(64, .box [iv (d.hk : Int), .list 1 (d.rows.map fun n : Nat => iv (n : Int))]), (192, .arr 1 (tabV (tabN d i)))], [], 10000000⟩) (fun _ => True)
 ·simp -implicitDefEqProofs (maxSteps := 2000000) (disch := first | exact tt_rfl rfl | omega | (simp only [go_sem] <;> omega) | fail) only [go_sem, norm_eq, Ok.some]
  simp [tabN, tabV]
 ·trivial
 intro i hi _
 by_cases h : i < d.rows.length
 ·have hr := hd.lt _ (List.getElem_mem h)
  have hP := Points_ok d.rows[i] d.hk (by omega) (by omega)
  have hl : (tabV (tabN d i)).length = i := by simp [tabV, tabN]; omega
  have e3 : tabV (tabN d (i + 1)) = tabV (tabN d i) ++ [ringV (ptsT d.rows[i] d.hk)] := by
   unfold tabV tabN
   rw [List.take_succ_eq_append_getElem h, List.map_append, List.map_append]; rfl
  generalize tabV (tabN d i) = es at *
  unfold ringV at e3
  repeat (first | apply Wp.seqA | apply Wp.skipS | apply Wp.blockS | ((first | apply Wp.regS | apply Wp.condV | apply Wp.reg | apply Wp.condW | apply fin_ret); simp -implicitDefEqProofs (maxSteps := 2000000) (disch := first | exact tt_rfl rfl | omega | (simp only [go_sem] <;> omega) | fail) only [go_sem, h, Int.ofNat_lt, List.getElem?_map, List.getElem?_eq_getElem h, Option.map_some, hP, hl] <;> try with_reducible rfl) | apply Wp.block | apply Wp.exitS | apply Wp.retS | apply Wp.exit | apply Wp.ret | apply Wp.skip)
  apply round_next
  ·simp -implicitDefEqProofs (maxSteps := 2000000) (disch := first | exact tt_rfl rfl | omega | (simp only [go_sem] <;> omega) | fail) only [go_sem, norm_eq, Ok.some]; with_reducible rfl
  refine ⟨h, ?_, trivial⟩
  rw [e3]
  simp
 ·obtain rfl : i = d.rows.length := by omega
  have hl : (tabV (tabN d d.rows.length)).length = d.rows.length := by simp [tabV, tabN]
  have etk : (tabV (tabN d d.rows.length)).take d.rows.length = tabV (tabN d d.rows.length) := List.take_of_length_le (by omega)
  generalize tabV (tabN d d.rows.length) = es at *
  repeat (first | apply Wp.seqA | apply Wp.skipS | apply Wp.blockS | ((first | apply Wp.regS | apply Wp.condV | apply Wp.reg | apply Wp.condW | apply fin_ret); simp -implicitDefEqProofs (maxSteps := 2000000) (disch := first | exact tt_rfl rfl | omega | (simp only [go_sem] <;> omega) | fail) only [go_sem, Int.lt_irrefl, hl, etk] <;> try with_reducible rfl) | apply Wp.block | apply Wp.exitS | apply Wp.retS | apply Wp.exit | apply Wp.ret | apply Wp.skip)

/-- points with picks and hooks exchanged -/
def overT (t : List (List Bool)) (n : Nat) : List (List Bool) := (List.range n).map fun h => t.map fun l => l.getD h false
theorem Over_ok (t : List (List Bool)) (n : Nat) (h0 : 0 < t.length) (hn : ∀ l ∈ t, l.length = n) (ht : t.length ≤ 1000) (hn' : n ≤ 1000) : lim F 36 [.list 1 (tabV t)] = some (.own 1 (tabV (overT t n)), []) := by
 have g0 : (tabV t)[0]? = some (.list 1 (t[0].map fun b => .bool b)) := by
  unfold tabV; rw [List.getElem?_map, List.getElem?_eq_getElem h0]; rfl
 have l0 : t[0].length = n := hn _ (List.getElem_mem h0)
 have hlt : (tabV t).length = t.length := by simp [tabV]
 refine lim_by (fn := a36) (k := 1) (res := [.tmp 2]) rfl rfl rfl (by simp -implicitDefEqProofs (maxSteps := 2000000) (disch := first | exact tt_rfl rfl | omega | (simp only [go_sem] <;> omega) | fail) only [go_sem]) ?_
 simp -implicitDefEqProofs (maxSteps := 2000000) (disch := first | exact tt_rfl rfl | omega | (simp only [go_sem] <;> omega) | fail) only [go_sem]
 repeat (first | apply Wp.seqA | apply Wp.skipS | apply Wp.blockS | ((first | apply Wp.regS | apply Wp.condV | apply Wp.reg | apply Wp.condW | apply fin_ret); simp -implicitDefEqProofs (maxSteps := 2000000) (disch := first | exact tt_rfl rfl | omega | (simp only [go_sem] <;> omega) | fail) only [go_sem] <;> try with_reducible rfl) | apply Wp.block | apply Wp.exitS | apply Wp.retS | apply Wp.exit | apply Wp.ret | apply Wp.skip)
 apply Wp.loopF n (fun i => ⟨[(0, .list 1 (tabV t)), (3, .slice 192 0 i), (4, iv (i : Int))], [(192, .arr 1 (tabV (overT t i)))], [], 10000000⟩) (fun _ => True)
 ·simp -implicitDefEqProofs (maxSteps := 2000000) (disch := first | exact tt_rfl rfl | omega | (simp only [go_sem] <;> omega) | fail) only [go_sem, norm_eq, Ok.some]
  simp [overT, tabV]
 ·trivial
 intro i hi _
 by_cases h : i < n
 ·have hl : (tabV (overT t i)).length = i := by simp [tabV, overT]
  have e3 : tabV (overT t (i + 1)) = tabV (overT t i) ++ [ringV (t.map fun l => l.getD i false)] := by
   unfold tabV overT
   rw [List.range_succ, List.map_append, List.map_append]; rfl
  unfold ringV at e3
  generalize tabV (overT t i) = es at *
  generalize tabV (overT t (i + 1)) = es' at *
  repeat (first | apply Wp.seqA | apply Wp.skipS | apply Wp.blockS | ((first | apply Wp.regS | apply Wp.condV | apply Wp.reg | apply Wp.condW | apply fin_ret); simp -implicitDefEqProofs (maxSteps := 2000000) (disch := first | exact tt_rfl rfl | omega | (simp only [go_sem] <;> omega) | fail) only [go_sem, h, Int.ofNat_lt, g0, l0, hl] <;> try with_reducible rfl) | apply Wp.block | apply Wp.exitS | apply Wp.retS | apply Wp.exit | apply Wp.ret | apply Wp.skip)
  apply Wp.loopF t.length (fun j => ⟨[(0, .list 1 (tabV t)), (3, .slice 192 0 i), (4, iv (i : Int)), (5, .slice 320 0 j), (6, iv (j : Int))], [(192, .arr 1 es), (320, .arr 1 ((t.take j).map fun l => .bool (l.getD i false)))], [], 10000000⟩) (fun _ => True)
  ·simp -implicitDefEqProofs (maxSteps := 2000000) (disch := first | exact tt_rfl rfl | omega | (simp only [go_sem] <;> omega) | fail) only [go_sem, norm_eq, Ok.some]
   simp
  ·trivial
  intro j hj _
  by_cases h' : j < t.length
  ·have gj : (tabV t)[j]? = some (.list 1 (t[j].map fun b => .bool b)) := by
    unfold tabV; rw [List.getElem?_map, List.getElem?_eq_getElem h']; rfl
   have lj : t[j].length = n := hn _ (List.getElem_mem h')
   have gi : (t[j].map fun b => AV.bool b)[i]? = some (.bool (t[j].getD i false)) := by
    rw [List.getElem?_map, List.getElem?_eq_getElem (by omega), List.getD_eq_getElem?_getD, List.getElem?_eq_getElem (by omega)]; rfl
   have hl2 : ((t.take j).map fun l => AV.bool (l.getD i false)).length = j := by simp; omega
   have e4 : (t.take (j + 1)).map (fun l => AV.bool (l.getD i false)) = (t.take j).map (fun l => AV.bool (l.getD i false)) ++ [.bool (t[j].getD i false)] := by
    rw [List.take_succ_eq_append_getElem h', List.map_append]; rfl
   generalize (t.take j).map (fun l => AV.bool (l.getD i false)) = fs at *
   generalize (t.take (j + 1)).map (fun l => AV.bool (l.getD i false)) = fs' at *
   repeat (first | apply Wp.seqA | apply Wp.skipS | apply Wp.blockS | ((first | apply Wp.regS | apply Wp.condV | apply Wp.reg | apply Wp.condW | apply fin_ret); simp -implicitDefEqProofs (maxSteps := 2000000) (disch := first | exact tt_rfl rfl | omega | (simp only [go_sem] <;> omega) | fail) only [go_sem, h', hlt, Int.ofNat_lt, gj, gi, lj, hl, hl2, List.length_map] <;> try with_reducible rfl) | apply Wp.block | apply Wp.exitS | apply Wp.retS | apply Wp.exit | apply Wp.ret | apply Wp.skip)
   apply round_next
   ·simp -implicitDefEqProofs (maxSteps := 2000000) (disch := first | exact tt_rfl rfl | omega | (simp only [go_sem] <;> omega) | fail) only [go_sem, norm_eq, Ok.some]; with_reducible rfl
   refine ⟨h', ?_, trivial⟩
   rw [e4]
   simp
  ·obtain rfl : j = t.length := by omega
   have hl2 : (t.map fun l => AV.bool (l.getD i false)).length = t.length := by simp
   have e5 : (t.take t.length).map (fun l => AV.bool (l.getD i false)) = t.map (fun l => AV.bool (l.getD i false)) := by rw [List.take_length]
   rw [e5]
   rw [List.map_map] at e3
   have e6 : ((fun b => AV.bool b) ∘ fun l : List Bool => l.getD i false) = fun l => AV.bool (l.getD i false) := rfl
   rw [e6] at e3
   have e7 : (t.map fun l => AV.bool (l.getD i false)).take t.length = t.map fun l => AV.bool (l.getD i false) := List.take_of_length_le (by omega)
   generalize t.map (fun l => AV.bool (l.getD i false)) = fs at *
   repeat (first | apply Wp.seqA | apply Wp.skipS | apply Wp.blockS | ((first | apply Wp.regS | apply Wp.condV | apply Wp.reg | apply Wp.condW | apply fin_ret); simp -implicitDefEqProofs (maxSteps := 2000000) (disch := first | exact tt_rfl rfl | omega | (simp only [go_sem] <;> omega) | fail) only [go_sem, Int.lt_irrefl, hlt, hl, hl2, e7] <;> try with_reducible rfl) | apply Wp.block | apply Wp.exitS | apply Wp.retS | apply Wp.exit | apply Wp.ret | apply Wp.skip)
   apply round_next
   ·simp -implicitDefEqProofs (maxSteps := 2000000) (disch := first | exact tt_rfl rfl | omega | (simp only [go_sem] <;> omega) | fail) only [go_sem, norm_eq, Ok.some]; with_reducible rfl
   refine ⟨h, ?_, trivial⟩
   rw [e3]
   simp
 ·obtain rfl : i = n := by omega
  have hl : (tabV (overT t i)).length = i := by simp [tabV, overT]
  have etk : (tabV (overT t i)).take i = tabV (overT t i) := List.take_of_length_le (by omega)
  generalize tabV (overT t i) = es at *
  repeat (first | apply Wp.seqA | apply Wp.skipS | apply Wp.blockS | ((first | apply Wp.regS | apply Wp.condV | apply Wp.reg | apply Wp.condW | apply fin_ret); simp -implicitDefEqProofs (maxSteps := 2000000) (disch := first | exact tt_rfl rfl | omega | (simp only [go_sem] <;> omega) | fail) only [go_sem, Int.lt_irrefl, g0, l0, hl, etk] <;> try with_reducible rfl) | apply Wp.block | apply Wp.exitS | apply Wp.retS | apply Wp.exit | apply Wp.ret | apply Wp.skip)

/-- a table that is some of its rows, repeated -/
def wholeT (t : List (List Bool)) (k : Nat) : Bool := decide (t.length % k = 0) && wholeR (fun i => t.getD i []) t.length k
theorem Whole_ok (t : List (List Bool)) (n k : Nat) (hn : ∀ l ∈ t, l.length = n) (ht : t.length ≤ 1000) (hn' : n ≤ 1000) (hk : 1 ≤ k) (hk' : k ≤ 1000) : lim F 75 [.list 1 (tabV t), iv (k : Int)] = some (.bool (wholeT t k), []) := by
 have hlt : (tabV t).length = t.length := by simp [tabV]
 have em : Int.tmod (t.length : Int) (k : Int) = ((t.length % k : Nat) : Int) := by
  rw [Int.tmod_eq_emod_of_nonneg (Int.natCast_nonneg _)]; simp
 have gt : ∀ i (h : i < t.length), (tabV t)[i]? = some (.list 1 (t[i].map fun b => .bool b)) := fun i h => by
  unfold tabV; rw [List.getElem?_map, List.getElem?_eq_getElem h]; rfl
 unfold wholeT
 by_cases hm : t.length % k = 0
 ·rw [decide_eq_true hm, Bool.true_and]
  refine lim_by (fn := a75) (k := 2) (res := [.tmp 4]) rfl rfl rfl (by simp -implicitDefEqProofs (maxSteps := 2000000) (disch := first | exact tt_rfl rfl | omega | (simp only [go_sem] <;> omega) | fail) only [go_sem]) ?_
  simp -implicitDefEqProofs (maxSteps := 2000000) (disch := first | exact tt_rfl rfl | omega | (simp only [go_sem] <;> omega) | fail) only [go_sem]
  repeat (first | apply Wp.seqA | apply Wp.skipS | apply Wp.blockS | ((first | apply Wp.regS | apply Wp.condV | apply Wp.reg | apply Wp.condW | apply fin_ret); simp -implicitDefEqProofs (maxSteps := 2000000) (disch := first | exact tt_rfl rfl | omega | (simp only [go_sem] <;> omega) | fail) only [go_sem, hlt, em, hm, show (k : Int) ≠ 0 by omega] <;> try with_reducible rfl) | apply Wp.block | apply Wp.exitS | apply Wp.retS | apply Wp.exit | apply Wp.ret | apply Wp.skip)
  apply Wp.loopF t.length (fun i => ⟨[(0, .list 1 (tabV t)), (1, iv (k : Int)), (5, iv (i : Int))], [], [], 10000000⟩) (fun i => ∀ j, j < i → t.getD j [] = t.getD (j % k) [])
  ·simp -implicitDefEqProofs (maxSteps := 2000000) (disch := first | exact tt_rfl rfl | omega | (simp only [go_sem] <;> omega) | fail) only [go_sem, norm_eq, Ok.some]
   try rfl
  ·intro j h; omega
  intro i hi hp
  by_cases h : i < t.length
  ·have li : t[i].length = n := hn _ (List.getElem_mem h)
   have hik : i % k < t.length := by have := Nat.mod_le i k; omega
   have lk : t[i % k].length = n := hn _ (List.getElem_mem hik)
   have ei : Int.tmod (i : Int) (k : Int) = ((i % k : Nat) : Int) := by
    rw [Int.tmod_eq_emod_of_nonneg (Int.natCast_nonneg _)]; simp
   have gi := gt i h
   have gk := gt (i % k) hik
   have di : t.getD i [] = t[i] := by rw [List.getD_eq_getElem?_getD, List.getElem?_eq_getElem h]; rfl
   have dk : t.getD (i % k) [] = t[i % k] := by rw [List.getD_eq_getElem?_getD, List.getElem?_eq_getElem hik]; rfl
   repeat (first | apply Wp.seqA | apply Wp.skipS | apply Wp.blockS | ((first | apply Wp.regS | apply Wp.condV | apply Wp.reg | apply Wp.condW | apply fin_ret); simp -implicitDefEqProofs (maxSteps := 2000000) (disch := first | exact tt_rfl rfl | omega | (simp only [go_sem] <;> omega) | fail) only [go_sem, h, hlt, Int.ofNat_lt] <;> try with_reducible rfl) | apply Wp.block | apply Wp.exitS | apply Wp.retS | apply Wp.exit | apply Wp.ret | apply Wp.skip)
   apply Wp.loopF n (fun j => ⟨[(0, .list 1 (tabV t)), (1, iv (k : Int)), (5, iv (i : Int)), (6, iv (j : Int))], [], [], 10000000⟩) (fun j => ∀ q, q < j → t[i].getD q false = t[i % k].getD q false)
   ·simp -implicitDefEqProofs (maxSteps := 2000000) (disch := first | exact tt_rfl rfl | omega | (simp only [go_sem] <;> omega) | fail) only [go_sem, norm_eq, Ok.some]
    try rfl
   ·intro j h; omega
   intro j hj hq
   generalize hmk : i % k = m at *
   by_cases h' : j < n
   ·have g1 : (t[i].map fun b => AV.bool b)[j]? = some (.bool (t[i].getD j false)) := by
     rw [List.getElem?_map, List.getElem?_eq_getElem (by omega), List.getD_eq_getElem?_getD, List.getElem?_eq_getElem (by omega)]; rfl
    have g2 : (t[m].map fun b => AV.bool b)[j]? = some (.bool (t[m].getD j false)) := by
     rw [List.getElem?_map, List.getElem?_eq_getElem (by omega), List.getD_eq_getElem?_getD, List.getElem?_eq_getElem (by omega)]; rfl
    by_cases hb : t[i].getD j false = t[m].getD j false
    ·repeat (first | apply Wp.seqA | apply Wp.skipS | apply Wp.blockS | ((first | apply Wp.regS | apply Wp.condV | apply Wp.reg | apply Wp.condW | apply fin_ret); simp -implicitDefEqProofs (maxSteps := 2000000) (disch := first | exact tt_rfl rfl | omega | (simp only [go_sem] <;> omega) | fail) only [go_sem, h, h', hlt, Int.ofNat_lt, gi, gk, ei, li, lk, g1, g2, hb, show (k : Int) ≠ 0 by omega, List.length_map, Int.toNat_natCast] <;> try with_reducible rfl) | apply Wp.block | apply Wp.exitS | apply Wp.retS | apply Wp.exit | apply Wp.ret | apply Wp.skip)
     apply round_next
     ·simp -implicitDefEqProofs (maxSteps := 2000000) (disch := first | exact tt_rfl rfl | omega | (simp only [go_sem] <;> omega) | fail) only [go_sem, norm_eq, Ok.some]; with_reducible rfl
     refine ⟨h', by simp, fun q hq' => ?_⟩
     by_cases e : q = j
     ·subst e; exact hb
     ·exact hq q (by omega)
    ·have hb' : (t[i].getD j false == t[m].getD j false) = false := beq_eq_false_iff_ne.2 hb
     repeat (first | apply Wp.seqA | apply Wp.skipS | apply Wp.blockS | ((first | apply Wp.regS | apply Wp.condV | apply Wp.reg | apply Wp.condW | apply fin_ret); simp -implicitDefEqProofs (maxSteps := 2000000) (disch := first | exact tt_rfl rfl | omega | (simp only [go_sem] <;> omega) | fail) only [go_sem, h, h', hlt, Int.ofNat_lt, gi, gk, ei, li, lk, g1, g2, hb', show (false != true) = true from rfl, show (k : Int) ≠ 0 by omega, List.length_map, Int.toNat_natCast] <;> try with_reducible rfl) | apply Wp.block | apply Wp.exitS | apply Wp.retS | apply Wp.exit | apply Wp.ret | apply Wp.skip)
     rw [show wholeR (fun i => t.getD i []) t.length k = false from ?_]
     cases hw : wholeR (fun i => t.getD i []) t.length k with
     | false => rfl
     | true =>
      exfalso
      have := wholeR_iff.1 hw i h
      rw [hmk, di, dk] at this
      exact hb (by rw [this])
   ·obtain rfl : j = n := by omega
    repeat (first | apply Wp.seqA | apply Wp.skipS | apply Wp.blockS | ((first | apply Wp.regS | apply Wp.condV | apply Wp.reg | apply Wp.condW | apply fin_ret); simp -implicitDefEqProofs (maxSteps := 2000000) (disch := first | exact tt_rfl rfl | omega | (simp only [go_sem] <;> omega) | fail) only [go_sem, h, hlt, Int.ofNat_lt, gi, li, Int.lt_irrefl, List.length_map, Int.toNat_natCast] <;> try with_reducible rfl) | apply Wp.block | apply Wp.exitS | apply Wp.retS | apply Wp.exit | apply Wp.ret | apply Wp.skip)
    apply round_next
    ·simp -implicitDefEqProofs (maxSteps := 2000000) (disch := first | exact tt_rfl rfl | omega | (simp only [go_sem] <;> omega) | fail) only [go_sem, norm_eq, Ok.some]; with_reducible rfl
    refine ⟨h, by simp, fun q hq' => ?_⟩
    by_cases e : q = i
    ·subst e
     rw [hmk, di, dk]
     refine List.ext_getElem (by omega) fun w hw1 hw2 => ?_
     have := hq w (by omega)
     rw [List.getD_eq_getElem?_getD, List.getD_eq_getElem?_getD, List.getElem?_eq_getElem hw1, List.getElem?_eq_getElem hw2] at this
     exact this
    ·exact hp q (by omega)
  ·repeat (first | apply Wp.seqA | apply Wp.skipS | apply Wp.blockS | ((first | apply Wp.regS | apply Wp.condV | apply Wp.reg | apply Wp.condW | apply fin_ret); simp -implicitDefEqProofs (maxSteps := 2000000) (disch := first | exact tt_rfl rfl | omega | (simp only [go_sem] <;> omega) | fail) only [go_sem, h, hlt, Int.ofNat_lt] <;> try with_reducible rfl) | apply Wp.block | apply Wp.exitS | apply Wp.retS | apply Wp.exit | apply Wp.ret | apply Wp.skip)
   rw [show wholeR (fun i => t.getD i []) t.length k = true from wholeR_iff.2 fun j hj => hp j (by omega)]
 ·rw [decide_eq_false hm, Bool.false_and]
  refine lim_by (fn := a75) (k := 2) (res := [.tmp 4]) rfl rfl rfl (by simp -implicitDefEqProofs (maxSteps := 2000000) (disch := first | exact tt_rfl rfl | omega | (simp only [go_sem] <;> omega) | fail) only [go_sem]) ?_
  simp -implicitDefEqProofs (maxSteps := 2000000) (disch := first | exact tt_rfl rfl | omega | (simp only [go_sem] <;> omega) | fail) only [go_sem]
  repeat (first | apply Wp.seqA | apply Wp.skipS | apply Wp.blockS | ((first | apply Wp.regS | apply Wp.condV | apply Wp.reg | apply Wp.condW | apply fin_ret); simp -implicitDefEqProofs (maxSteps := 2000000) (disch := first | exact tt_rfl rfl | omega | (simp only [go_sem] <;> omega) | fail) only [go_sem, hlt, em, show ¬ ((t.length % k : Nat) : Int) = 0 by omega, show (k : Int) ≠ 0 by omega] <;> try with_reducible rfl) | apply Wp.block | apply Wp.exitS | apply Wp.retS | apply Wp.exit | apply Wp.ret | apply Wp.skip)

/-- the least number of rows that, repeated, are the table -/
theorem refLeast_ok (t : List (List Bool)) (n : Nat) (h1 : 1 ≤ t.length) (hn : ∀ l ∈ t, l.length = n) (ht : t.length ≤ 1000) (hn' : n ≤ 1000) : lim F 35 [.list 1 (tabV t)] = some (iv ((perT t.length (wholeR (fun i => t.getD i []) t.length) : Nat) : Int), []) := by
 have hp := perT_in (P := wholeR (fun i => t.getD i []) t.length) h1
 generalize hq : perT t.length (wholeR (fun i => t.getD i []) t.length) = q at *
 refine lim_by (fn := a35) (k := 1) (res := [.tmp 2]) rfl rfl rfl (by simp -implicitDefEqProofs (maxSteps := 2000000) (disch := first | exact tt_rfl rfl | omega | (simp only [go_sem] <;> omega) | fail) only [go_sem]) ?_
 simp -implicitDefEqProofs (maxSteps := 2000000) (disch := first | exact tt_rfl rfl | omega | (simp only [go_sem] <;> omega) | fail) only [go_sem]
 repeat (first | apply Wp.seqA | apply Wp.skipS | apply Wp.blockS | ((first | apply Wp.regS | apply Wp.condV | apply Wp.reg | apply Wp.condW | apply fin_ret); simp -implicitDefEqProofs (maxSteps := 2000000) (disch := first | exact tt_rfl rfl | omega | (simp only [go_sem] <;> omega) | fail) only [go_sem] <;> try with_reducible rfl) | apply Wp.block | apply Wp.exitS | apply Wp.retS | apply Wp.exit | apply Wp.ret | apply Wp.skip)
 apply Wp.loopF (q - 1) (fun i => ⟨[(0, .list 1 (tabV t)), (3, iv ((i + 1 : Nat) : Int))], [], [], 10000000⟩) (fun i => ∀ j, j < i → wholeT t (j + 1) = false)
 ·simp -implicitDefEqProofs (maxSteps := 2000000) (disch := first | exact tt_rfl rfl | omega | (simp only [go_sem] <;> omega) | fail) only [go_sem, norm_eq, Ok.some]
  try rfl
 ·intro j h; omega
 intro i hi hs
 have hw := Whole_ok t n (i + 1) hn ht hn' (by omega) (by omega)
 have key : ∀ j, 1 ≤ j → wholeT t j = perAt t.length (wholeR (fun i => t.getD i []) t.length) j := fun j hj => by
  unfold wholeT perAt
  rw [decide_eq_true hj, Bool.true_and]
 cases hb : wholeT t (i + 1) with
 | true =>
  rw [hb] at hw
  have e : q = i + 1 := by
   rcases Nat.lt_or_ge (i + 1) t.length with h | h
   ·rw [← hq]
    refine perT_at h (by rw [← key _ (by omega)]; exact hb) fun j hj => ?_
    match j with
    | 0 => rfl
    | j + 1 => rw [← key _ (by omega)]; exact hs j (by omega)
   ·omega
  repeat (first | apply Wp.seqA | apply Wp.skipS | apply Wp.blockS | ((first | apply Wp.regS | apply Wp.condV | apply Wp.reg | apply Wp.condW | apply fin_ret); simp -implicitDefEqProofs (maxSteps := 2000000) (disch := first | exact tt_rfl rfl | omega | (simp only [go_sem] <;> omega) | fail) only [go_sem, hw] <;> try with_reducible rfl) | apply Wp.block | apply Wp.exitS | apply Wp.retS | apply Wp.exit | apply Wp.ret | apply Wp.skip)
  rw [e]
 | false =>
  rw [hb] at hw
  repeat (first | apply Wp.seqA | apply Wp.skipS | apply Wp.blockS | ((first | apply Wp.regS | apply Wp.condV | apply Wp.reg | apply Wp.condW | apply fin_ret); simp -implicitDefEqProofs (maxSteps := 2000000) (disch := first | exact tt_rfl rfl | omega | (simp only [go_sem] <;> omega) | fail) only [go_sem, hw] <;> try with_reducible rfl) | apply Wp.block | apply Wp.exitS | apply Wp.retS | apply Wp.exit | apply Wp.ret | apply Wp.skip)
  apply block_norm
  apply round_next
  ·simp -implicitDefEqProofs (maxSteps := 2000000) (disch := first | exact tt_rfl rfl | omega | (simp only [go_sem] <;> omega) | fail) only [go_sem, norm_eq, Ok.some]; with_reducible rfl
  refine ⟨?_, by simp, fun j hj => ?_⟩
  ·rcases Nat.lt_or_ge i (q - 1) with h | h
   ·exact h
   ·exfalso
    have e : i + 1 = q := by omega
    rw [key _ (by omega), e] at hb
    rcases Nat.lt_or_ge q t.length with h | h
    ·have hz : perAt t.length (wholeR (fun i => t.getD i []) t.length) q = true := by
      unfold perT at hq
      cases hf : (List.range t.length).find? (perAt t.length (wholeR (fun i => t.getD i []) t.length)) with
      | none => rw [hf] at hq; simp at hq; omega
      | some z => rw [hf] at hq; simp at hq; rw [← hq]; exact List.find?_some hf
     rw [hz] at hb; cases hb
    ·have e2 : q = t.length := by omega
     rw [e2] at hb
     unfold perAt at hb
     rw [decide_eq_true h1, Nat.mod_self, whole_self] at hb
     simp at hb
  ·by_cases e : j = i
   ·subst e; exact hb
   ·exact hs j (by omega)
end Go.Abs
