/-
 Chapter 12: cards that do not have their keys; lists that are held against each other. No condition beyond those that each theorem names.
-/
import Derived.Test.YtodpkfillohplaaDoorX2
set_option linter.all false
namespace Go.Abs
set_option maxRecDepth 10000
set_option maxHeartbeats 4000000

def wrongB (d : DesN) (l : List Int) (j : Nat) : Bool := decide (l.getD j 0 ≠ -1 ∧ l.getD j 0 ≠ ((keyN (d.rows.getD j 0) : Nat) : Int))
def wrongTo (d : DesN) (l : List Int) (i : Nat) : List Nat := (List.range i).filter (wrongB d l)
theorem ints_at {l : List Int} {i : Nat} (h : i < l.length) : (l.map fun n => iv n)[i]? = some (iv (l.getD i 0)) := by
 rw [List.getElem?_map, List.getD_eq_getElem?_getD, List.getElem?_eq_getElem h]; rfl
def wrongE (d : DesA) (l : List Int) : Int := if checkD d ≠ 0 then checkD d else keysE d.rows.length l
theorem Ints_ok (a b : List Int) (hl : a.length ≤ 1000000) : lim F 29 [.list 1 (a.map fun n => iv n), .list 1 (b.map fun n => iv n)] = some (.bool (decide (a = b)), []) := by
 by_cases h0 : a.length = b.length
 ·refine lim_by (fn := a29) (k := 2) (res := [.tmp 4]) rfl rfl rfl (by simp -implicitDefEqProofs (maxSteps := 2000000) (disch := first | exact tt_rfl rfl | omega | (simp only [go_sem] <;> omega) | fail) only [go_sem]) ?_
  try delta mvA
  try delta opA
  try delta tA
  simp -implicitDefEqProofs (maxSteps := 2000000) (disch := first | exact tt_rfl rfl | omega | (simp only [go_sem] <;> omega) | fail) only [go_sem]
  repeat (first | apply Wp.seqA | apply Wp.skipS | apply Wp.blockS | ((first | apply Wp.regS | apply Wp.condV | apply Wp.reg | apply Wp.condW | apply fin_ret); simp -implicitDefEqProofs (maxSteps := 2000000) (disch := first | exact tt_rfl rfl | omega | (simp only [go_sem] <;> omega) | fail) only [go_sem, List.length_map, show ((a.length : Int) = (b.length : Int)) = True from eq_true (by omega)] <;> try with_reducible rfl) | apply Wp.block | apply Wp.exitS | apply Wp.retS | apply Wp.exit | apply Wp.ret | apply Wp.skip)
  apply Wp.loopF a.length (fun i => ⟨[(0, .list 1 (a.map fun n => iv n)), (1, .list 1 (b.map fun n => iv n)), (5, iv (i : Int))], [], [], 10000000⟩) (fun i => ∀ j, j < i → a.getD j 0 = b.getD j 0)
  ·simp -implicitDefEqProofs (maxSteps := 2000000) (disch := first | exact tt_rfl rfl | omega | (simp only [go_sem] <;> omega) | fail) only [go_sem, norm_eq, Ok.some]
   rfl
  ·intro j h; omega
  intro i hi hn
  by_cases h : i < a.length
  ·have g1 := ints_at h
   have g2 := ints_at (l := b) (i := i) (by omega)
   by_cases e : a.getD i 0 = b.getD i 0
   ·repeat (first | apply Wp.seqA | apply Wp.skipS | apply Wp.blockS | ((first | apply Wp.regS | apply Wp.condV | apply Wp.reg | apply Wp.condW | apply fin_ret); simp -implicitDefEqProofs (maxSteps := 2000000) (disch := first | exact tt_rfl rfl | omega | (simp only [go_sem] <;> omega) | fail) only [go_sem, h, List.length_map, g1, g2, Int.ofNat_lt, show (a.getD i 0 = b.getD i 0) = True from eq_true e] <;> try with_reducible rfl) | apply Wp.block | apply Wp.exitS | apply Wp.retS | apply Wp.exit | apply Wp.ret | apply Wp.skip)
    apply round_next
    ·simp -implicitDefEqProofs (maxSteps := 2000000) (disch := first | exact tt_rfl rfl | omega | (simp only [go_sem] <;> omega) | fail) only [go_sem, norm_eq, Ok.some]; with_reducible rfl
    refine ⟨h, by simp, fun j hj => ?_⟩
    by_cases ej : j = i
    ·subst ej; exact e
    ·exact hn j (by omega)
   ·repeat (first | apply Wp.seqA | apply Wp.skipS | apply Wp.blockS | ((first | apply Wp.regS | apply Wp.condV | apply Wp.reg | apply Wp.condW | apply fin_ret); simp -implicitDefEqProofs (maxSteps := 2000000) (disch := first | exact tt_rfl rfl | omega | (simp only [go_sem] <;> omega) | fail) only [go_sem, h, List.length_map, g1, g2, Int.ofNat_lt, e] <;> try with_reducible rfl) | apply Wp.block | apply Wp.exitS | apply Wp.retS | apply Wp.exit | apply Wp.ret | apply Wp.skip)
    rw [decide_eq_false fun q => e (by rw [q])]
  ·obtain rfl : i = a.length := by omega
   repeat (first | apply Wp.seqA | apply Wp.skipS | apply Wp.blockS | ((first | apply Wp.regS | apply Wp.condV | apply Wp.reg | apply Wp.condW | apply fin_ret); simp -implicitDefEqProofs (maxSteps := 2000000) (disch := first | exact tt_rfl rfl | omega | (simp only [go_sem] <;> omega) | fail) only [go_sem, Int.lt_irrefl, List.length_map] <;> try with_reducible rfl) | apply Wp.block | apply Wp.exitS | apply Wp.retS | apply Wp.exit | apply Wp.ret | apply Wp.skip)
   rw [decide_eq_true]
   apply List.ext_getElem h0
   intro j h1 h2
   have := hn j h1
   rw [List.getD_eq_getElem?_getD, List.getD_eq_getElem?_getD, List.getElem?_eq_getElem h1, List.getElem?_eq_getElem h2] at this
   exact this
 ·rw [decide_eq_false fun q => h0 (by rw [q])]
  refine lim_by (fn := a29) (k := 2) (res := [.tmp 4]) rfl rfl rfl (by simp -implicitDefEqProofs (maxSteps := 2000000) (disch := first | exact tt_rfl rfl | omega | (simp only [go_sem] <;> omega) | fail) only [go_sem]) ?_
  try delta mvA
  try delta opA
  try delta tA
  simp -implicitDefEqProofs (maxSteps := 2000000) (disch := first | exact tt_rfl rfl | omega | (simp only [go_sem] <;> omega) | fail) only [go_sem]
  repeat (first | apply Wp.seqA | apply Wp.skipS | apply Wp.blockS | ((first | apply Wp.regS | apply Wp.condV | apply Wp.reg | apply Wp.condW | apply fin_ret); simp -implicitDefEqProofs (maxSteps := 2000000) (disch := first | exact tt_rfl rfl | omega | (simp only [go_sem] <;> omega) | fail) only [go_sem, List.length_map, show ¬ ((a.length : Int) = (b.length : Int)) by omega] <;> try with_reducible rfl) | apply Wp.block | apply Wp.exitS | apply Wp.retS | apply Wp.exit | apply Wp.ret | apply Wp.skip)
theorem nats_ints (l : List Nat) : natsV l = (l.map fun n : Nat => (n : Int)).map fun n => iv n := by
 unfold natsV; rw [List.map_map]; rfl
theorem Same_ok (a b : DesA) (hl : a.rows.length ≤ 1000000) : lim F 22 [a.av, b.av] = some (.bool (decide (a.hk = b.hk ∧ a.rows = b.rows)), []) := by
 have h := Ints_ok a.rows b.rows hl
 unfold DesA.av
 generalize a.rows.map (fun n => iv n) = ra at *
 generalize b.rows.map (fun n => iv n) = rb at *
 by_cases h1 : a.hk = b.hk <;> by_cases h2 : a.rows = b.rows
 all_goals
  first | rw [decide_eq_true h2] at h | rw [decide_eq_false h2] at h
  refine lim_by (fn := a22) (k := 2) (res := [.tmp 4]) rfl rfl rfl (by simp -implicitDefEqProofs (maxSteps := 2000000) (disch := first | exact tt_rfl rfl | omega | (simp only [go_sem] <;> omega) | fail) only [go_sem]) ?_
  try delta mvA
  try delta opA
  try delta tA
  simp -implicitDefEqProofs (maxSteps := 2000000) (disch := first | exact tt_rfl rfl | omega | (simp only [go_sem] <;> omega) | fail) only [go_sem]
  repeat (first | apply Wp.seqA | apply Wp.skipS | apply Wp.blockS | ((first | apply Wp.regS | apply Wp.condV | apply Wp.reg | apply Wp.condW | apply fin_ret); simp -implicitDefEqProofs (maxSteps := 2000000) (disch := first | exact tt_rfl rfl | omega | (simp only [go_sem] <;> omega) | fail) only [go_sem, h, h1, h2] <;> try with_reducible rfl) | apply Wp.block | apply Wp.exitS | apply Wp.retS | apply Wp.exit | apply Wp.ret | apply Wp.skip)
theorem set_at {l : List DesA} {i : Nat} (h : i < l.length) : (l.map DesA.av)[i]? = some (.agg [iv l[i].hk, .list 1 (l[i].rows.map fun n => iv n)]) := by
 rw [List.getElem?_map, List.getElem?_eq_getElem h]; rfl
theorem Alike_same (l : List DesA) (hl : l.length ≤ 1000) (hr : ∀ d ∈ l, d.rows.length ≤ 1000) : lim F 18 [.list 2 (l.map DesA.av), .list 2 (l.map DesA.av)] = some (.bool true, []) := by
 have hln : (l.map DesA.av).length = l.length := by simp
 have hg := fun i (h : i < l.length) => set_at h
 have hC := fun i (h : i < l.length) => Same_ok l[i] l[i] (by have := hr _ (List.getElem_mem h); omega)
 simp only [true_and, decide_true] at hC
 unfold DesA.av at hC
 generalize l.map DesA.av = es at *
 refine lim_by (fn := a18) (k := 2) (res := [.tmp 4]) rfl rfl rfl (by simp -implicitDefEqProofs (maxSteps := 2000000) (disch := first | exact tt_rfl rfl | omega | (simp only [go_sem] <;> omega) | fail) only [go_sem]) ?_
 try delta mvA
 try delta opA
 try delta tA
 simp -implicitDefEqProofs (maxSteps := 2000000) (disch := first | exact tt_rfl rfl | omega | (simp only [go_sem] <;> omega) | fail) only [go_sem]
 repeat (first | apply Wp.seqA | apply Wp.skipS | apply Wp.blockS | ((first | apply Wp.regS | apply Wp.condV | apply Wp.reg | apply Wp.condW | apply fin_ret); simp -implicitDefEqProofs (maxSteps := 2000000) (disch := first | exact tt_rfl rfl | omega | (simp only [go_sem] <;> omega) | fail) only [go_sem, hln] <;> try with_reducible rfl) | apply Wp.block | apply Wp.exitS | apply Wp.retS | apply Wp.exit | apply Wp.ret | apply Wp.skip)
 apply Wp.loopF l.length (fun i => ⟨[(0, .list 2 es), (1, .list 2 es), (5, iv (i : Int))], [], [], 10000000⟩) (fun _ => True)
 ·simp -implicitDefEqProofs (maxSteps := 2000000) (disch := first | exact tt_rfl rfl | omega | (simp only [go_sem] <;> omega) | fail) only [go_sem, norm_eq, Ok.some]
  rfl
 ·trivial
 intro i hi _
 by_cases h : i < l.length
 ·have h1 := hg i h
  have h2 := hC i h
  repeat (first | apply Wp.seqA | apply Wp.skipS | apply Wp.blockS | ((first | apply Wp.regS | apply Wp.condV | apply Wp.reg | apply Wp.condW | apply fin_ret); simp -implicitDefEqProofs (maxSteps := 2000000) (disch := first | exact tt_rfl rfl | omega | (simp only [go_sem] <;> omega) | fail) only [go_sem, h, Int.ofNat_lt, h1, h2, hln] <;> try with_reducible rfl) | apply Wp.block | apply Wp.exitS | apply Wp.retS | apply Wp.exit | apply Wp.ret | apply Wp.skip)
  apply round_next
  ·simp -implicitDefEqProofs (maxSteps := 2000000) (disch := first | exact tt_rfl rfl | omega | (simp only [go_sem] <;> omega) | fail) only [go_sem, norm_eq, Ok.some]; with_reducible rfl
  exact ⟨h, by simp, trivial⟩
 ·obtain rfl : i = l.length := by omega
  repeat (first | apply Wp.seqA | apply Wp.skipS | apply Wp.blockS | ((first | apply Wp.regS | apply Wp.condV | apply Wp.reg | apply Wp.condW | apply fin_ret); simp -implicitDefEqProofs (maxSteps := 2000000) (disch := first | exact tt_rfl rfl | omega | (simp only [go_sem] <;> omega) | fail) only [go_sem, Int.lt_irrefl, hln] <;> try with_reducible rfl) | apply Wp.block | apply Wp.exitS | apply Wp.retS | apply Wp.exit | apply Wp.ret | apply Wp.skip)
theorem own_ok (l : List DesA) (hl : l.length ≤ 1000) (hr : ∀ d ∈ l, d.rows.length ≤ 1000) : lim F 15 [.list 2 (l.map DesA.av)] = some (.own 2 (l.map DesA.av), []) := by
 have hln : (l.map DesA.av).length = l.length := by simp
 have hg := fun i (h : i < l.length) => set_at h
 have hC := fun i (h : i < l.length) => ints_ok l[i].rows (by have := hr _ (List.getElem_mem h); omega)
 have hst : ∀ i (h : i < l.length), (l.take (i + 1)).map DesA.av = (l.take i).map DesA.av ++ [.agg [iv l[i].hk, .list 1 (l[i].rows.map fun n => iv n)]] := fun i h => by
  rw [List.take_succ, List.getElem?_eq_getElem h, List.map_append]; rfl
 have hl0 : ∀ i, i ≤ l.length → ((l.take i).map DesA.av).length = i := fun i h => by simp; omega
 generalize hes : l.map DesA.av = es at *
 refine lim_by (fn := a15) (k := 1) (res := [.tmp 2]) rfl rfl rfl (by simp -implicitDefEqProofs (maxSteps := 2000000) (disch := first | exact tt_rfl rfl | omega | (simp only [go_sem] <;> omega) | fail) only [go_sem]) ?_
 try delta mvA
 try delta opA
 try delta tA
 simp -implicitDefEqProofs (maxSteps := 2000000) (disch := first | exact tt_rfl rfl | omega | (simp only [go_sem] <;> omega) | fail) only [go_sem]
 repeat (first | apply Wp.seqA | apply Wp.skipS | apply Wp.blockS | ((first | apply Wp.regS | apply Wp.condV | apply Wp.reg | apply Wp.condW | apply fin_ret); simp -implicitDefEqProofs (maxSteps := 2000000) (disch := first | exact tt_rfl rfl | omega | (simp only [go_sem] <;> omega) | fail) only [go_sem, hln] <;> try with_reducible rfl) | apply Wp.block | apply Wp.exitS | apply Wp.retS | apply Wp.exit | apply Wp.ret | apply Wp.skip)
 apply Wp.loopF l.length (fun i => ⟨[(0, .list 2 es), (3, .slice 192 0 i), (4, iv (i : Int))], [(192, .arr 2 ((l.take i).map DesA.av))], [], 10000000⟩) (fun _ => True)
 ·simp -implicitDefEqProofs (maxSteps := 2000000) (disch := first | exact tt_rfl rfl | omega | (simp only [go_sem] <;> omega) | fail) only [go_sem, norm_eq, Ok.some]
  rfl
 ·trivial
 intro i hi _
 by_cases h : i < l.length
 ·have h1 := hg i h
  have h2 := hC i h
  have e := hst i h
  have hl1 := hl0 i (by omega)
  generalize (l.take (i + 1)).map DesA.av = L' at *
  generalize (l.take i).map DesA.av = L at *
  have htk : (l[i].rows.map fun n => iv n).take l[i].rows.length = l[i].rows.map fun n => iv n := List.take_of_length_le (by simp)
  repeat (first | apply Wp.seqA | apply Wp.skipS | apply Wp.blockS | ((first | apply Wp.regS | apply Wp.condV | apply Wp.reg | apply Wp.condW | apply fin_ret); simp -implicitDefEqProofs (maxSteps := 2000000) (disch := first | exact tt_rfl rfl | omega | (simp only [go_sem] <;> omega) | fail) only [go_sem, h, Int.ofNat_lt, h1, h2, hln, hl1, List.length_map, htk] <;> try with_reducible rfl) | apply Wp.block | apply Wp.exitS | apply Wp.retS | apply Wp.exit | apply Wp.ret | apply Wp.skip)
  apply round_next
  ·simp -implicitDefEqProofs (maxSteps := 2000000) (disch := first | exact tt_rfl rfl | omega | (simp only [go_sem] <;> omega) | fail) only [go_sem, norm_eq, Ok.some]; with_reducible rfl
  exact ⟨h, by simp [e], trivial⟩
 ·obtain rfl : i = l.length := by omega
  rw [List.take_length, hes]
  have htk : es.take l.length = es := List.take_of_length_le (by omega)
  repeat (first | apply Wp.seqA | apply Wp.skipS | apply Wp.blockS | ((first | apply Wp.regS | apply Wp.condV | apply Wp.reg | apply Wp.condW | apply fin_ret); simp -implicitDefEqProofs (maxSteps := 2000000) (disch := first | exact tt_rfl rfl | omega | (simp only [go_sem] <;> omega) | fail) only [go_sem, Int.lt_irrefl, hln, htk] <;> try with_reducible rfl) | apply Wp.block | apply Wp.exitS | apply Wp.retS | apply Wp.exit | apply Wp.ret | apply Wp.skip)
end Go.Abs
