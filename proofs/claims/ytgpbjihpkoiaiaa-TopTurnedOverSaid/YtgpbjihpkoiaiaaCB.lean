/-
 Chapter 2: what a chain weaves; the chain of a design. No condition beyond those that each theorem names.
-/
import Derived.Test.YtgpbjihpkoiaiaaCA
import Derived.Test.YtgpbjihpkoiaiaaV0
set_option linter.all false
namespace Go.Abs
set_option maxRecDepth 10000
set_option maxHeartbeats 2000000
def rowAt (b : BeltN) (i : Nat) : Nat := (b.cards[i]?.map (·.row)).getD 0
theorem after_ok (b : BeltN) (hb : b.Ok) (i s : Nat) (h : i < 1000) (hs : s < 1000) : lim F 103 [.agg [iv (b.hk : Int), .list 3 (b.cards.map CardN.av), iv (b.hk : Int)], iv (i : Int), iv (s : Int)] = some (iv (((i + s) % b.cards.length : Nat) : Int), []) := by
 have e0 : Int.tmod ((i : Int) + s) (b.cards.length : Int) = (((i + s) % b.cards.length : Nat) : Int) := by rw [Int.tmod_eq_emod_of_nonneg (by omega)]; rfl
 have h1 := hb.c1;have h60 := hb.c60;have hm := Nat.mod_lt (i + s) (show 0 < b.cards.length by omega)
 have hln : (b.cards.map CardN.av).length = b.cards.length := by simp
 generalize b.cards.map CardN.av = es at *;generalize (i + s) % b.cards.length = q at *;refine lim_by (fn := a103) (k := 3) (res := [.tmp 6]) rfl rfl rfl (by simp -implicitDefEqProofs (maxSteps := 2000000) (disch := first | exact tt_rfl rfl | omega | (simp only [go_sem] <;> omega) | fail) only [go_sem]) ?_
 try delta mvA
 try delta opA
 try delta tA
 simp -implicitDefEqProofs (maxSteps := 2000000) (disch := first | exact tt_rfl rfl | omega | (simp only [go_sem] <;> omega) | fail) only [go_sem]
 repeat (first | apply Wp.seqA | apply Wp.skipS | apply Wp.blockS | ((first | apply Wp.regS | apply Wp.condV | apply Wp.reg | apply Wp.condW | apply fin_ret); simp -implicitDefEqProofs (maxSteps := 2000000) (disch := first | exact tt_rfl rfl | omega | (simp only [go_sem] <;> omega) | fail) only [go_sem, e0, hln, show ¬ (b.cards.length : Int) = 0 by omega] <;> try with_reducible rfl) | apply Wp.block | apply Wp.exitS | apply Wp.retS | apply Wp.exit | apply Wp.ret | apply Wp.skip)
def posW (n first : Nat) (steps : List Nat) : Nat → Nat
 | 0 => first
 | i + 1 => (posW n first steps i + steps[i]?.getD 0) % n
theorem posW_lt {n first : Nat} {steps : List Nat} (h : first < n) : ∀ i, posW n first steps i < n
 | 0 => h
 | i + 1 => Nat.mod_lt _ (by omega)
def wovenW (b : BeltN) (first : Nat) (steps : List Nat) : List Nat := (List.range steps.length).map fun i => rowAt b (posW b.cards.length first steps i)
theorem Weave_of (b : BeltN) (hb : b.Ok) (rf : Nat → Nat) (hli : ∀ i, i < b.cards.length → lim F 102 [.agg [iv (b.hk : Int), .list 3 (b.cards.map CardN.av), iv (b.hk : Int)], iv (i : Int)] = some (iv (rf i : Int), [])) (first : Nat) (hf : first < b.cards.length) (steps : List Nat) (hs : steps.length ≤ 60) (h2 : ∀ s ∈ steps, s ≤ 2) :
  lim F 45 [b.av, iv (first : Int), .list 1 (natsV steps)] = some (.tuple [.own 1 (natsV ((List.range steps.length).map fun i => rf (posW b.cards.length first steps i))), iv (posW b.cards.length first steps steps.length : Int), iv 0], []) := by
 have ho := open_ok b hb;have hc1 := hb.c1;have hc60 := hb.c60;have w1 := cwithin_one 0 ((b.cards.length : Int) - 1) (first : Int);have w2 := cwithin_ok 0 2 (steps.map fun n : Nat => (n : Int)) (by simp; omega)
 rw [List.map_map, show ((fun n : Int => iv n) ∘ fun n : Nat => (n : Int)) = fun n : Nat => iv (n : Int) from rfl, List.all_eq_true.2 (fun x hx => by
  obtain ⟨s, hs, rfl⟩ := List.mem_map.1 hx;have := h2 s hs;exact decide_eq_true (by omega))] at w2
 rw [decide_eq_true (by omega)] at w1
 change lim F _ [_, _, .list 1 (natsV steps)] = _ at w2;have hln : (b.cards.map CardN.av).length = b.cards.length := by simp
 have hl2 : (natsV steps).length = steps.length := by simp
 have haf := after_ok b hb;have hp := fun i => posW_lt (steps := steps) hf i
 have hget : ∀ i : Nat, i < steps.length → (natsV steps)[i]? = some (iv ((steps[i]?.getD 0 : Nat) : Int)) := fun i h => by
  unfold natsV;rw [List.getElem?_map, List.getElem?_eq_getElem h]; rfl
 have hst : ∀ i : Nat, steps[i]?.getD 0 ≤ 2 := fun i => by
  cases h : steps[i]? with
  | none => simp
  | some x => exact h2 x (List.mem_of_getElem? h)
 have hp1 : ∀ i : Nat, posW b.cards.length first steps (i + 1) = (posW b.cards.length first steps i + steps[i]?.getD 0) % b.cards.length := fun i => rfl
 have hp0 : posW b.cards.length first steps 0 = first := rfl;have hstep : ∀ n, natsV ((List.range (n + 1)).map fun i => rf (posW b.cards.length first steps i)) = natsV ((List.range n).map fun i => rf (posW b.cards.length first steps i)) ++ [iv ((rf (posW b.cards.length first steps n) : Nat) : Int)] := fun n => by
  unfold natsV;rw [List.range_succ, List.map_append, List.map_append]; rfl
 have hnl : ∀ n, (natsV ((List.range n).map fun i => rf (posW b.cards.length first steps i))).length = n := fun n => by simp
 have hpl : ∀ n, (natsV ((List.range n).map fun i => rf (posW b.cards.length first steps i))).all AV.plain = true := fun n => nat_plain _
 unfold BeltN.av at *;generalize b.cards.map CardN.av = es at *;generalize posW b.cards.length first steps = pw at *;generalize natsV steps = sv at *;generalize steps.length = N at *;refine lim_by (fn := a45) (k := 3) (res := [.tmp 6, .tmp 7, .tmp 8]) rfl rfl rfl (by simp -implicitDefEqProofs (maxSteps := 2000000) (disch := first | exact tt_rfl rfl | omega | (simp only [go_sem] <;> omega) | fail) only [go_sem]) ?_
 try delta mvA
 try delta opA
 try delta tA
 simp -implicitDefEqProofs (maxSteps := 2000000) (disch := first | exact tt_rfl rfl | omega | (simp only [go_sem] <;> omega) | fail) only [go_sem]
 repeat (first | apply Wp.seqA | apply Wp.skipS | apply Wp.blockS | ((first | apply Wp.regS | apply Wp.condV | apply Wp.reg | apply Wp.condW | apply fin_ret); simp -implicitDefEqProofs (maxSteps := 2000000) (disch := first | exact tt_rfl rfl | omega | (simp only [go_sem] <;> omega) | fail) only [go_sem, ho, w1, w2, hln, hl2, show ¬ (60 : Int) < N by omega] <;> try with_reducible rfl) | apply Wp.block | apply Wp.exitS | apply Wp.retS | apply Wp.exit | apply Wp.ret | apply Wp.skip)
 apply Wp.loopF N (fun i => ⟨[(6, .slice 384 0 i), (7, iv (pw i : Int)), (9, .ptr 576 0 0), (39, .list 1 sv), (40, iv (N : Int)), (41, iv (i : Int))], [(384, .arr 1 (natsV ((List.range i).map fun i => rf (pw i)))), (576, .box [iv (b.hk : Int), .list 3 es, iv (b.hk : Int)])], [], 10000000⟩) (fun _ => True)
 ·simp -implicitDefEqProofs (maxSteps := 2000000) (disch := first | exact tt_rfl rfl | omega | (simp only [go_sem] <;> omega) | fail) only [go_sem, norm_eq, Ok.some]
  rw [hp0];rfl
 ·trivial
 intro i hi _;have n1 := hnl i;have P1 := hpl i;have hi' := hp i;have l1 := hli (pw i) hi';have t1 : (natsV ((List.range i).map fun i => rf (pw i))).take i = natsV ((List.range i).map fun i => rf (pw i)) := List.take_of_length_le (by omega)
 by_cases h' : i < N
 ·have a1 := haf (pw i) (steps[i]?.getD 0) (by omega) (by have := hst i; omega)
  have g1 := hget i h';rw [hstep i];rw [← hp1 i] at a1;generalize natsV ((List.range i).map fun i => rf (pw i)) = L at *
  repeat (first | apply Wp.seqA | apply Wp.skipS | apply Wp.blockS | ((first | apply Wp.regS | apply Wp.condV | apply Wp.reg | apply Wp.condW | apply fin_ret); simp -implicitDefEqProofs (maxSteps := 2000000) (disch := first | exact tt_rfl rfl | omega | (simp only [go_sem] <;> omega) | fail) only [go_sem, h', Int.ofNat_lt, hl2, g1, l1, a1, n1, t1, Int.toNat_natCast] <;> try with_reducible rfl) | apply Wp.block | apply Wp.exitS | apply Wp.retS | apply Wp.exit | apply Wp.ret | apply Wp.skip)
  apply round_next
  ·simp -implicitDefEqProofs (maxSteps := 2000000) (disch := first | exact tt_rfl rfl | omega | (simp only [go_sem] <;> omega) | fail) only [go_sem, norm_eq, Ok.some]; with_reducible rfl
  exact ⟨h', by simp, trivial⟩
 ·obtain rfl : i = N := by omega
  generalize natsV ((List.range i).map fun i => rf (pw i)) = L at *
  repeat (first | apply Wp.seqA | apply Wp.skipS | apply Wp.blockS | ((first | apply Wp.regS | apply Wp.condV | apply Wp.reg | apply Wp.condW | apply fin_ret); simp -implicitDefEqProofs (maxSteps := 2000000) (disch := first | exact tt_rfl rfl | omega | (simp only [go_sem] <;> omega) | fail) only [go_sem, h', Int.ofNat_lt, n1, P1, t1] <;> try with_reducible rfl) | apply Wp.block | apply Wp.exitS | apply Wp.retS | apply Wp.exit | apply Wp.ret | apply Wp.skip)
def punchN (d : DesN) : BeltN := ⟨d.hk, d.rows.zipIdx.map fun p => ⟨p.2, p.1, false⟩⟩
theorem punch_len (d : DesN) : (punchN d).cards.length = d.rows.length := by simp [punchN]
theorem Punch_ok (d : DesN) (hd : d.Ok) : lim F 42 [d.av] = some (.tuple [.agg [iv (d.hk : Int), .own 3 ((punchN d).cards.map CardN.av)], iv 0], []) := by
 have h0 := isValid_ok (d.hk : Int);have g1 := hd.h1;have g2 := hd.h24;have g3 := hd.r60;have g4 := hd.r1;rw [decide_eq_true (by omega)] at h0
 have h1 := areRows_ok d.hk g2 (d.rows.map fun n : Nat => (n : Int)) (by simp; omega)
 rw [List.map_map, show ((fun n : Int => iv n) ∘ fun n : Nat => (n : Int)) = fun n : Nat => iv (n : Int) from rfl, List.all_eq_true.2 (fun x hx => by
  obtain ⟨r, hr, rfl⟩ := List.mem_map.1 hx;have := hd.lt r hr;exact decide_eq_true (by omega))] at h1
 have hl2 : (natsV d.rows).length = d.rows.length := by simp
 have hget : ∀ i : Nat, i < d.rows.length → (natsV d.rows)[i]? = some (iv ((d.rows.getD i 0 : Nat) : Int)) := fun i h => by
  unfold natsV;rw [List.getElem?_map, List.getD_eq_getElem?_getD, List.getElem?_eq_getElem h]; rfl
 have hcl : ((punchN d).cards.map CardN.av).length = d.rows.length := by rw [List.length_map, punch_len]
 have hstep : ∀ n : Nat, n < d.rows.length → ((punchN d).cards.map CardN.av).take (n + 1) = ((punchN d).cards.map CardN.av).take n ++ [.agg [iv (n : Int), iv ((d.rows.getD n 0 : Nat) : Int), .bool false]] := fun n h => by
  rw [List.take_succ_eq_append_getElem (by omega)]
  congr 2
  simp [punchN, CardN.av, List.getD_eq_getElem?_getD, h]
 have hnl : ∀ n : Nat, n ≤ d.rows.length → (((punchN d).cards.map CardN.av).take n).length = n := fun n h => by rw [List.length_take, hcl]; omega
 have hpl : ∀ n : Nat, (((punchN d).cards.map CardN.av).take n).all AV.plain = true := fun n => List.all_eq_true.2 fun x hx => List.all_eq_true.1 (card_plain (punchN d).cards) x (List.mem_of_mem_take hx)
 have hall : ((punchN d).cards.map CardN.av).take d.rows.length = (punchN d).cards.map CardN.av := List.take_of_length_le (by omega)
 unfold DesN.av;change lim F _ [_, .list 1 (natsV d.rows)] = _ at h1;change lim F _ [.agg [_, .list 1 (natsV d.rows)]] = _;rw [← hall];generalize (punchN d).cards.map CardN.av = cs at *;generalize natsV d.rows = sv at *;refine lim_by (fn := a42) (k := 1) (res := [.cell 2 2 true, .tmp 3]) rfl rfl rfl (by simp -implicitDefEqProofs (maxSteps := 2000000) (disch := first | exact tt_rfl rfl | omega | (simp only [go_sem] <;> omega) | fail) only [go_sem]) ?_
 try delta mvA
 try delta opA
 try delta tA
 simp -implicitDefEqProofs (maxSteps := 2000000) (disch := first | exact tt_rfl rfl | omega | (simp only [go_sem] <;> omega) | fail) only [go_sem]
 repeat (first | apply Wp.seqA | apply Wp.skipS | apply Wp.blockS | ((first | apply Wp.regS | apply Wp.condV | apply Wp.reg | apply Wp.condW | apply fin_ret); simp -implicitDefEqProofs (maxSteps := 2000000) (disch := first | exact tt_rfl rfl | omega | (simp only [go_sem] <;> omega) | fail) only [go_sem, h0, h1, hl2, show ¬ (60 : Int) < d.rows.length by omega, show ¬ (d.rows.length : Int) = 0 by omega] <;> try with_reducible rfl) | apply Wp.block | apply Wp.exitS | apply Wp.retS | apply Wp.exit | apply Wp.ret | apply Wp.skip)
 generalize hN : d.rows.length = N at *;apply Wp.loopF N (fun i => ⟨[(2, .ptr 128 0 0), (37, .list 1 sv), (38, iv (N : Int)), (39, iv (i : Int))], [(128, .box [iv (d.hk : Int), .slice 302049 0 i]), (302049, .arr 3 (cs.take i))], [], 10000000⟩) (fun _ => True)
 ·simp -implicitDefEqProofs (maxSteps := 2000000) (disch := first | exact tt_rfl rfl | omega | (simp only [go_sem] <;> omega) | fail) only [go_sem, norm_eq, Ok.some]
  rfl
 ·trivial
 intro i hi _;have n1 := hnl i hi;have P1 := hpl i;have t1 : (cs.take i).take i = cs.take i := List.take_of_length_le (by omega)
 by_cases h' : i < N
 ·have s1 := hstep i h'
  have g1 := hget i h';rw [s1];clear hstep hget hnl hpl;generalize cs.take i = L at *;repeat (first | apply Wp.seqA | apply Wp.skipS | apply Wp.blockS | ((first | apply Wp.regS | apply Wp.condV | apply Wp.reg | apply Wp.condW | apply fin_ret); simp -implicitDefEqProofs (maxSteps := 2000000) (disch := first | exact tt_rfl rfl | omega | (simp only [go_sem] <;> omega) | fail) only [go_sem, h', Int.ofNat_lt, hl2, g1, n1, t1, Int.toNat_natCast] <;> try with_reducible rfl) | apply Wp.block | apply Wp.exitS | apply Wp.retS | apply Wp.exit | apply Wp.ret | apply Wp.skip)
  apply round_next
  ·simp -implicitDefEqProofs (maxSteps := 2000000) (disch := first | exact tt_rfl rfl | omega | (simp only [go_sem] <;> omega) | fail) only [go_sem, norm_eq, Ok.some]; with_reducible rfl
  exact ⟨h', by simp, trivial⟩
 ·obtain rfl : i = N := by omega
  clear hstep hget hnl hpl;generalize cs.take i = L at *;repeat (first | apply Wp.seqA | apply Wp.skipS | apply Wp.blockS | ((first | apply Wp.regS | apply Wp.condV | apply Wp.reg | apply Wp.condW | apply fin_ret); simp -implicitDefEqProofs (maxSteps := 2000000) (disch := first | exact tt_rfl rfl | omega | (simp only [go_sem] <;> omega) | fail) only [go_sem, h', Int.ofNat_lt, n1, P1, t1] <;> try with_reducible rfl) | apply Wp.block | apply Wp.exitS | apply Wp.retS | apply Wp.exit | apply Wp.ret | apply Wp.skip)
end Go.Abs
