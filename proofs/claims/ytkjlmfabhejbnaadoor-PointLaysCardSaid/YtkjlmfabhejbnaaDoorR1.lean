/-
 Chapter 1: tables of points, as the document makes them. No condition beyond those that each theorem names.
-/
import Derived.Test.YtkjlmfabhejbnaaDoorEvI
import Derived.Test.YtkjlmfabhejbnaaDoorP2
import Derived.Test.YtkjlmfabhejbnaaDoorM5
set_option linter.all false
namespace Go.Abs
set_option maxRecDepth 10000
set_option maxHeartbeats 2000000
def ringV (l : List Bool) : AV := .list 1 (l.map fun b => .bool b)
def tabV (t : List (List Bool)) : List AV := t.map ringV
@[go_sem] theorem bool_plain (l : List Bool) : (l.map fun b => AV.bool b).all AV.plain = true := by
 simp [AV.plain, AV.plain1]
def ptsT (r n : Nat) : List Bool := (List.range n).map fun h => r.testBit h
theorem Points_ok (r n : Nat) (hr : r < 9000000000000000000) (hn : n ≤ 1000) : lim F 42 [iv (r : Int), iv (n : Int)] = some (.own 1 ((ptsT r n).map fun b => .bool b), []) := by
 refine lim_by (fn := a42) (k := 2) (res := [.tmp 4]) rfl rfl rfl (by simp -implicitDefEqProofs (maxSteps := 2000000) (disch := first | exact tt_rfl rfl | omega | (simp only [go_sem] <;> omega) | fail) only [go_sem]) ?_
 try delta mvA
 try delta opA
 try delta tA
 simp -implicitDefEqProofs (maxSteps := 2000000) (disch := first | exact tt_rfl rfl | omega | (simp only [go_sem] <;> omega) | fail) only [go_sem]
 repeat (first | apply Wp.seqA | apply Wp.skipS | apply Wp.blockS | ((first | apply Wp.regS | apply Wp.condV | apply Wp.reg | apply Wp.condW | apply fin_ret); simp -implicitDefEqProofs (maxSteps := 2000000) (disch := first | exact tt_rfl rfl | omega | (simp only [go_sem] <;> omega) | fail) only [go_sem] <;> try with_reducible rfl) | apply Wp.block | apply Wp.exitS | apply Wp.retS | apply Wp.exit | apply Wp.ret | apply Wp.skip)
 apply Wp.loopF n (fun i => ⟨[(0, iv ((r / 2 ^ i : Nat) : Int)), (1, iv (n : Int)), (5, .slice 320 0 i), (6, iv (i : Int))], [(320, .arr 1 ((ptsT r i).map fun b => .bool b))], [], 10000000⟩) (fun _ => True)
 ·simp -implicitDefEqProofs (maxSteps := 2000000) (disch := first | exact tt_rfl rfl | omega | (simp only [go_sem] <;> omega) | fail) only [go_sem, norm_eq, Ok.some]
  simp [ptsT]
 ·trivial
 intro i hi _;by_cases h : i < n
 ·have hb : r / 2 ^ i ≤ r := Nat.div_le_self _ _
  have e0 : (0 : Int) ≤ ((r / 2 ^ i : Nat) : Int) := Int.natCast_nonneg _;have e1 : Int.tmod ((r / 2 ^ i : Nat) : Int) 2 = ((r / 2 ^ i % 2 : Nat) : Int) := by rw [Int.tmod_eq_emod_of_nonneg e0]; omega
  have e2 : Int.tdiv ((r / 2 ^ i : Nat) : Int) 2 = ((r / 2 ^ (i + 1) : Nat) : Int) := by
   rw [Int.tdiv_eq_ediv_of_nonneg e0, Nat.pow_succ, ← Nat.div_div_eq_div_mul]; omega
  have hl : ((ptsT r i).map fun b => AV.bool b).length = i := by simp [ptsT]
  have e3 : (ptsT r (i + 1)).map (fun b => AV.bool b) = (ptsT r i).map (fun b => AV.bool b) ++ [.bool (decide (r / 2 ^ i % 2 = 1))] := by
   unfold ptsT;rw [List.range_succ];simp [Nat.testBit_eq_decide_div_mod_eq]
  have e4 : decide (((r / 2 ^ i % 2 : Nat) : Int) = 1) = decide (r / 2 ^ i % 2 = 1) := by
   by_cases h : r / 2 ^ i % 2 = 1
   ·rw [h]; rfl
   ·rw [decide_eq_false h, decide_eq_false (by omega)]
  generalize (ptsT r i).map (fun b => AV.bool b) = es at *
  have hb' : r / 2 ^ (i + 1) ≤ r := Nat.div_le_self _ _;generalize hq : r / 2 ^ i = q at *;generalize hq' : r / 2 ^ (i + 1) = q' at *;repeat (first | apply Wp.seqA | apply Wp.skipS | apply Wp.blockS | ((first | apply Wp.regS | apply Wp.condV | apply Wp.reg | apply Wp.condW | apply fin_ret); simp -implicitDefEqProofs (maxSteps := 2000000) (disch := first | exact tt_rfl rfl | omega | (simp only [go_sem] <;> omega) | fail) only [go_sem, h, Int.ofNat_lt, e1, e2, hl, e4] <;> try with_reducible rfl) | apply Wp.block | apply Wp.exitS | apply Wp.retS | apply Wp.exit | apply Wp.ret | apply Wp.skip)
  apply round_next
  ·simp -implicitDefEqProofs (maxSteps := 2000000) (disch := first | exact tt_rfl rfl | omega | (simp only [go_sem] <;> omega) | fail) only [go_sem, norm_eq, Ok.some]; with_reducible rfl
  refine ⟨h, ?_, trivial⟩;rw [e3];simp
 ·obtain rfl : i = n := by omega
  have hl : ((ptsT r i).map fun b => AV.bool b).length = i := by simp [ptsT]
  have hp := bool_plain (ptsT r i);have etk : ((ptsT r i).map fun b => AV.bool b).take i = (ptsT r i).map fun b => AV.bool b := List.take_of_length_le (by omega)
  generalize (ptsT r i).map (fun b => AV.bool b) = es at *
  repeat (first | apply Wp.seqA | apply Wp.skipS | apply Wp.blockS | ((first | apply Wp.regS | apply Wp.condV | apply Wp.reg | apply Wp.condW | apply fin_ret); simp -implicitDefEqProofs (maxSteps := 2000000) (disch := first | exact tt_rfl rfl | omega | (simp only [go_sem] <;> omega) | fail) only [go_sem, Int.lt_irrefl, hl, hp, etk] <;> try with_reducible rfl) | apply Wp.block | apply Wp.exitS | apply Wp.retS | apply Wp.exit | apply Wp.ret | apply Wp.skip)
def tabN (d : DesN) (k : Nat) : List (List Bool) := (d.rows.take k).map fun r => ptsT r d.hk
def tabW (t : List (List Bool)) : List AV := t.map fun l => .own 1 (l.map fun b => .bool b)
theorem tabW_fe (t : List (List Bool)) : (tabW t).map AV.tabFe = tabV t := by
 unfold tabW tabV;rw [List.map_map]; rfl
@[simp] theorem tabW_len (t : List (List Bool)) : (tabW t).length = t.length := by simp [tabW]
theorem bool_plain1 (l : List Bool) : (l.map fun b => AV.bool b).all AV.plain1 = true := by simp [AV.plain1]
theorem Table_ok (d : DesN) (hd : d.Ok) : lim F 15 [d.av] = some (.ownT 1 (tabW (tabN d d.rows.length)), []) := by
 have h1 := hd.h24;have h2 := hd.r60;have p1 : 2 ^ d.hk ≤ 2 ^ 24 := Nat.pow_le_pow_right (by omega) (by omega)
 have hlN : ∀ i, i ≤ d.rows.length → (tabW (tabN d i)).length = i := fun i h => by simp [tabN]; omega
 unfold DesN.av;refine lim_by (fn := a15) (k := 1) (res := [.tmp 2]) rfl rfl rfl (by simp -implicitDefEqProofs (maxSteps := 2000000) (disch := first | exact tt_rfl rfl | omega | (simp only [go_sem] <;> omega) | fail) only [go_sem]) ?_
 try delta mvA
 try delta opA
 try delta tA
 simp -implicitDefEqProofs (maxSteps := 2000000) (disch := first | exact tt_rfl rfl | omega | (simp only [go_sem] <;> omega) | fail) only [go_sem]
 repeat (first | apply Wp.seqA | apply Wp.skipS | apply Wp.blockS | ((first | apply Wp.regS | apply Wp.condV | apply Wp.reg | apply Wp.condW | apply fin_ret); simp -implicitDefEqProofs (maxSteps := 2000000) (disch := first | exact tt_rfl rfl | omega | (simp only [go_sem] <;> omega) | fail) only [go_sem] <;> try with_reducible rfl) | apply Wp.block | apply Wp.exitS | apply Wp.retS | apply Wp.exit | apply Wp.ret | apply Wp.skip)
 apply Wp.loopF d.rows.length (fun i => ⟨[(1, .ptr 64 0 0), (3, .tabS 192 i), (4, iv (i : Int))], [(64, .box [iv (d.hk : Int), .list 1 (d.rows.map fun n : Nat => iv (n : Int))]), (192, .tab 1 (tabW (tabN d i)))], [], 10000000⟩) (fun _ => True)
 ·simp -implicitDefEqProofs (maxSteps := 2000000) (disch := first | exact tt_rfl rfl | omega | (simp only [go_sem] <;> omega) | fail) only [go_sem, norm_eq, Ok.some]
  rfl
 ·trivial
 intro i hi _;by_cases h : i < d.rows.length
 ·have hr := hd.lt _ (List.getElem_mem h)
  have hP := Points_ok d.rows[i] d.hk (by omega) (by omega)
  have hl := hlN i hi;have e3 : tabW (tabN d (i + 1)) = tabW (tabN d i) ++ [.own 1 ((ptsT d.rows[i] d.hk).map fun b => .bool b)] := by
   unfold tabW tabN;rw [List.take_succ_eq_append_getElem h, List.map_append, List.map_append]; rfl
  have hg : (d.rows.map fun n : Nat => iv (n : Int))[i]? = some (iv (d.rows[i] : Int)) := by
   rw [List.getElem?_map, List.getElem?_eq_getElem h]; rfl
  have hrl : ((ptsT d.rows[i] d.hk).map fun b => AV.bool b).length = d.hk := by simp [ptsT]
  have hpl := bool_plain (ptsT d.rows[i] d.hk);have hpl1 := bool_plain1 (ptsT d.rows[i] d.hk);have htk : ((ptsT d.rows[i] d.hk).map fun b => AV.bool b).take d.hk = (ptsT d.rows[i] d.hk).map fun b => AV.bool b := List.take_of_length_le (by omega)
  have hdl : (d.rows.map fun n : Nat => iv (n : Int)).length = d.rows.length := by simp
  generalize (ptsT d.rows[i] d.hk).map (fun b => AV.bool b) = PR at *
  generalize tabW (tabN d i) = TW at *;generalize (d.rows.map fun n : Nat => iv (n : Int)) = RW at *
  repeat (first | apply Wp.seqA | apply Wp.skipS | apply Wp.blockS | ((first | apply Wp.regS | apply Wp.condV | apply Wp.reg | apply Wp.condW | apply fin_ret); simp -implicitDefEqProofs (maxSteps := 2000000) (disch := first | exact tt_rfl rfl | omega | (simp only [go_sem] <;> omega) | fail) only [go_sem, h, Int.ofNat_lt, hP, hl, hg, hdl, hrl, hpl, hpl1, htk] <;> try with_reducible rfl) | apply Wp.block | apply Wp.exitS | apply Wp.retS | apply Wp.exit | apply Wp.ret | apply Wp.skip)
  apply round_next
  ·simp -implicitDefEqProofs (maxSteps := 2000000) (disch := first | exact tt_rfl rfl | omega | (simp only [go_sem] <;> omega) | fail) only [go_sem, norm_eq, Ok.some]; with_reducible rfl
  exact ⟨h, by rw [e3]; simp, trivial⟩
 ·obtain rfl : i = d.rows.length := by omega
  have hl := hlN d.rows.length (Nat.le_refl _);have hdl : (d.rows.map fun n : Nat => iv (n : Int)).length = d.rows.length := by simp
  generalize tabW (tabN d d.rows.length) = TW at *;repeat (first | apply Wp.seqA | apply Wp.skipS | apply Wp.blockS | ((first | apply Wp.regS | apply Wp.condV | apply Wp.reg | apply Wp.condW | apply fin_ret); simp -implicitDefEqProofs (maxSteps := 2000000) (disch := first | exact tt_rfl rfl | omega | (simp only [go_sem] <;> omega) | fail) only [go_sem, Int.lt_irrefl, hdl, hl] <;> try with_reducible rfl) | apply Wp.block | apply Wp.exitS | apply Wp.retS | apply Wp.exit | apply Wp.ret | apply Wp.skip)
end Go.Abs
