/-
 Chapter 12: cards that do not have their keys; lists that are held against each other. No condition beyond those that each theorem names.
-/
import Derived.Test.YtodpkfillohplaaDoorEvI
import Derived.Test.YtodpkfillohplaaDoorX2
set_option linter.all false
namespace Go.Abs
set_option maxRecDepth 10000
set_option maxHeartbeats 4000000
def wrongB (d : DesN) (l : List Int) (j : Nat) : Bool := decide (l.getD j 0 ≠ -1 ∧ l.getD j 0 ≠ ((keyN (d.rows.getD j 0) : Nat) : Int))
def wrongTo (d : DesN) (l : List Int) (i : Nat) : List Nat := (List.range i).filter (wrongB d l)
def wrongE (d : DesA) (l : List Int) : Int := if checkD d ≠ 0 then checkD d else keysE d.rows.length l
theorem set_at {l : List DesA} {i : Nat} (h : i < l.length) : (l.map DesA.av)[i]? = some (.agg [iv l[i].hk, .list 1 (l[i].rows.map fun n => iv n)]) := by
 rw [List.getElem?_map, List.getElem?_eq_getElem h]; rfl
def DesA.tv (d : DesA) : AV := .agg [iv d.hk, .own 1 (d.rows.map fun n => iv n)]
theorem int_plain1 (l : List Int) : (l.map fun n => iv n).all AV.plain1 = true := by simp [AV.plain1]
theorem own_ok (l : List DesA) (hl : l.length ≤ 1000) (hr : ∀ d ∈ l, d.rows.length ≤ 1000) : lim F 15 [.list 2 (l.map DesA.av)] = some (.ownT 2 (l.map DesA.tv), []) := by
 have hln : (l.map DesA.av).length = l.length := by simp
 have hlT : (l.map DesA.tv).length = l.length := by simp
 have hg := fun i (h : i < l.length) => set_at h
 have hC := fun i (h : i < l.length) => ints_ok l[i].rows (by have := hr _ (List.getElem_mem h); omega)
 have hst : ∀ i (h : i < l.length), (l.take (i + 1)).map DesA.tv = (l.take i).map DesA.tv ++ [.agg [iv l[i].hk, .own 1 (l[i].rows.map fun n => iv n)]] := fun i h => by
  rw [List.take_succ, List.getElem?_eq_getElem h, List.map_append]; rfl
 have hl0 : ∀ i, i ≤ l.length → ((l.take i).map DesA.tv).length = i := fun i h => by simp; omega
 generalize hes : l.map DesA.av = es at *;refine lim_by (fn := a15) (k := 1) (res := [.tmp 2]) rfl rfl rfl (by simp -implicitDefEqProofs (maxSteps := 2000000) (disch := first | exact tt_rfl rfl | omega | (simp only [go_sem] <;> omega) | fail) only [go_sem]) ?_
 try delta mvA
 try delta opA
 try delta tA
 simp -implicitDefEqProofs (maxSteps := 2000000) (disch := first | exact tt_rfl rfl | omega | (simp only [go_sem] <;> omega) | fail) only [go_sem]
 repeat (first | apply Wp.seqA | apply Wp.skipS | apply Wp.blockS | ((first | apply Wp.regS | apply Wp.condV | apply Wp.reg | apply Wp.condW | apply fin_ret); simp -implicitDefEqProofs (maxSteps := 2000000) (disch := first | exact tt_rfl rfl | omega | (simp only [go_sem] <;> omega) | fail) only [go_sem, hln] <;> try with_reducible rfl) | apply Wp.block | apply Wp.exitS | apply Wp.retS | apply Wp.exit | apply Wp.ret | apply Wp.skip)
 apply Wp.loopF l.length (fun i => ⟨[(0, .list 2 es), (3, .tabS 192 i), (4, iv (i : Int))], [(192, .tab 2 ((l.take i).map DesA.tv))], [], 10000000⟩) (fun _ => True)
 ·simp -implicitDefEqProofs (maxSteps := 2000000) (disch := first | exact tt_rfl rfl | omega | (simp only [go_sem] <;> omega) | fail) only [go_sem, norm_eq, Ok.some]
  rfl
 ·trivial
 intro i hi _;by_cases h : i < l.length
 ·have h1 := hg i h
  have h2 := hC i h;have e := hst i h;have hl1 := hl0 i (by omega)
  have P0 := int_plain l[i].rows;have P1 := int_plain1 l[i].rows;have hrl : (l[i].rows.map fun n => iv n).length = l[i].rows.length := by simp
  generalize (l.take (i + 1)).map DesA.tv = L' at *;generalize (l.take i).map DesA.tv = L at *;generalize (l[i].rows.map fun n => iv n) = Q at *
  repeat (first | apply Wp.seqA | apply Wp.skipS | apply Wp.blockS | ((first | apply Wp.regS | apply Wp.condV | apply Wp.reg | apply Wp.condW | apply fin_ret); simp -implicitDefEqProofs (maxSteps := 2000000) (disch := first | exact tt_rfl rfl | omega | (simp only [go_sem] <;> omega) | fail) only [go_sem, h, Int.ofNat_lt, h1, h2, hln, hl1, hrl, P0, P1] <;> try with_reducible rfl) | apply Wp.block | apply Wp.exitS | apply Wp.retS | apply Wp.exit | apply Wp.ret | apply Wp.skip)
  apply round_next
  ·simp -implicitDefEqProofs (maxSteps := 2000000) (disch := first | exact tt_rfl rfl | omega | (simp only [go_sem] <;> omega) | fail) only [go_sem, norm_eq, Ok.some]; with_reducible rfl
  exact ⟨h, by simp [e], trivial⟩
 ·obtain rfl : i = l.length := by omega
  rw [List.take_length];generalize l.map DesA.tv = M at *;repeat (first | apply Wp.seqA | apply Wp.skipS | apply Wp.blockS | ((first | apply Wp.regS | apply Wp.condV | apply Wp.reg | apply Wp.condW | apply fin_ret); simp -implicitDefEqProofs (maxSteps := 2000000) (disch := first | exact tt_rfl rfl | omega | (simp only [go_sem] <;> omega) | fail) only [go_sem, Int.lt_irrefl, hln, hlT] <;> try with_reducible rfl) | apply Wp.block | apply Wp.exitS | apply Wp.retS | apply Wp.exit | apply Wp.ret | apply Wp.skip)
end Go.Abs
