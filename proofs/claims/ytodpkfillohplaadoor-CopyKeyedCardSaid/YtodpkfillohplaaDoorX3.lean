/-
 Chapter 12: cards that do not have their keys; lists that are held against each other. No condition beyond those that each theorem names.
-/
import Derived.Test.YtodpkfillohplaaDoorEvI
import Derived.Test.YtodpkfillohplaaDoorX2
set_option linter.all false
namespace Go.Abs
set_option maxRecDepth 10000
set_option maxHeartbeats 4000000
def wrongB (d : DesN) (l : List Int) (j : Nat) : Bool := decide (l.getD j 0 ≠ -1 ∧ l.getD j 0 ≠ ((keyN (d.rows.getD j 0) : Nat) : Int))
def wrongTo (d : DesN) (l : List Int) (i : Nat) : List Nat := (List.range i).filter (wrongB d l)
theorem wrongTo_succ (d : DesN) (l : List Int) (i : Nat) : wrongTo d l (i + 1) = wrongTo d l i ++ if wrongB d l i then [i] else [] := by
 unfold wrongTo;rw [List.range_succ, List.filter_append]
 congr 1
 cases h : wrongB d l i <;> simp [h]
theorem wrongTo_le (d : DesN) (l : List Int) (i : Nat) : (wrongTo d l i).length ≤ i := by
 unfold wrongTo;exact Nat.le_trans (List.length_filter_le _ _) (by simp)
theorem ints_at {l : List Int} {i : Nat} (h : i < l.length) : (l.map fun n => iv n)[i]? = some (iv (l.getD i 0)) := by
 rw [List.getElem?_map, List.getD_eq_getElem?_getD, List.getElem?_eq_getElem h]; rfl
def wrongE (d : DesA) (l : List Int) : Int := if checkD d ≠ 0 then checkD d else keysE d.rows.length l
theorem Wrong_ok (d : DesN) (hd : d.Ok) (l : List Int) (hk : keysE d.rows.length l = 0) : lim F 42 [setV d, .list 1 (l.map fun k => iv k)] = some (.tuple [.own 1 (natsV (wrongTo d l l.length)), iv 0], []) := by
 have h60 := hd.r60;have hll : l.length = d.rows.length := by
  unfold keysE at hk;split at hk
  ·cases hk
  ·rename_i h; simpa using h
 have hK := Keys_ok d hd;have hC := checkKeys_ok d.rows.length l (by omega)
 rw [hk] at hC;have hn1 : (natsV d.rows).length = d.rows.length := by simp
 have hn2 : (natsV (keysTo d d.rows.length)).length = d.rows.length := by simp
 have hg1 : ∀ i, i < d.rows.length → (natsV (keysTo d d.rows.length))[i]? = some (iv ((keyN (d.rows.getD i 0) : Nat) : Int)) := fun i h => by
  unfold keysTo natsV;rw [List.map_map, List.getElem?_map, List.getElem?_range h]; rfl
 have hg2 : ∀ i, i < l.length → (l.map fun n => iv n)[i]? = some (iv (l.getD i 0)) := fun i h => ints_at h
 have hn3 : (l.map fun n => iv n).length = l.length := by simp
 have hst := wrongTo_succ d l;have hle := wrongTo_le d l;have hpl := fun i => nat_plain (wrongTo d l i)
 have hpa := nats_plain (keysTo d d.rows.length);unfold setV at *;generalize natsV (keysTo d d.rows.length) = al at *;generalize natsV d.rows = es at *;generalize l.map (fun n => iv n) = ks at *
 refine lim_by (fn := a42) (k := 2) (res := [.tmp 4, .tmp 5]) rfl rfl rfl (by simp -implicitDefEqProofs (maxSteps := 2000000) (disch := first | exact tt_rfl rfl | omega | (simp only [go_sem] <;> omega) | fail) only [go_sem]) ?_
 try delta mvA
 try delta opA
 try delta tA
 simp -implicitDefEqProofs (maxSteps := 2000000) (disch := first | exact tt_rfl rfl | omega | (simp only [go_sem] <;> omega) | fail) only [go_sem]
 repeat (first | apply Wp.seqA | apply Wp.skipS | apply Wp.blockS | ((first | apply Wp.regS | apply Wp.condV | apply Wp.reg | apply Wp.condW | apply fin_ret); simp -implicitDefEqProofs (maxSteps := 2000000) (disch := first | exact tt_rfl rfl | omega | (simp only [go_sem] <;> omega) | fail) only [go_sem, hK, hC, hn1, hn2, hn3, hpa] <;> try with_reducible rfl) | apply Wp.block | apply Wp.exitS | apply Wp.retS | apply Wp.exit | apply Wp.ret | apply Wp.skip)
 apply Wp.loopF l.length (fun i => ⟨[(4, .slice 256 0 (wrongTo d l i).length), (6, .slice 384 0 d.rows.length), (24, .list 1 ks), (25, iv (l.length : Int)), (26, iv (i : Int))], [(256, .arr 1 (natsV (wrongTo d l i))), (384, .arr 1 al)], [], 10000000⟩) (fun _ => True)
 ·simp -implicitDefEqProofs (maxSteps := 2000000) (disch := first | exact tt_rfl rfl | omega | (simp only [go_sem] <;> omega) | fail) only [go_sem, norm_eq, Ok.some]
  rfl
 ·trivial
 intro i hi _;by_cases h : i < l.length
 ·have a1 := hg1 i (by omega)
  have a2 := hg2 i h;have e := hst i;have e2 : wrongB d l i = decide (l.getD i 0 ≠ -1 ∧ l.getD i 0 ≠ ((keyN (d.rows.getD i 0) : Nat) : Int)) := rfl;have hl1 : (natsV (wrongTo d l i)).length = (wrongTo d l i).length := by simp
  have hl2 := hle i;generalize l.getD i 0 = k at *;generalize keyN (d.rows.getD i 0) = kn at *;by_cases c1 : k = -1
  ·rw [e2, decide_eq_false (by simp [c1])] at e
   rw [e, if_neg (by simp), List.append_nil]
   repeat (first | apply Wp.seqA | apply Wp.skipS | apply Wp.blockS | ((first | apply Wp.regS | apply Wp.condV | apply Wp.reg | apply Wp.condW | apply fin_ret); simp -implicitDefEqProofs (maxSteps := 2000000) (disch := first | exact tt_rfl rfl | omega | (simp only [go_sem] <;> omega) | fail) only [go_sem, h, Int.ofNat_lt, a1, a2, hn2, hn3, c1] <;> try with_reducible rfl) | apply Wp.block | apply Wp.exitS | apply Wp.retS | apply Wp.exit | apply Wp.ret | apply Wp.skip)
   apply round_next
   ·simp -implicitDefEqProofs (maxSteps := 2000000) (disch := first | exact tt_rfl rfl | omega | (simp only [go_sem] <;> omega) | fail) only [go_sem, norm_eq, Ok.some]; with_reducible rfl
   exact ⟨h, by simp, trivial⟩
  ·by_cases c2 : k = (kn : Int)
   ·rw [e2, decide_eq_false (by simp [c2])] at e
    rw [e, if_neg (by simp), List.append_nil]
    generalize wrongTo d l i = W at *;repeat (first | apply Wp.seqA | apply Wp.skipS | apply Wp.blockS | ((first | apply Wp.regS | apply Wp.condV | apply Wp.reg | apply Wp.condW | apply fin_ret); simp -implicitDefEqProofs (maxSteps := 2000000) (disch := first | exact tt_rfl rfl | omega | (simp only [go_sem] <;> omega) | fail) only [go_sem, h, Int.ofNat_lt, a1, a2, hn2, hn3, c1, show (k = (kn : Int)) = True from eq_true c2] <;> try with_reducible rfl) | apply Wp.block | apply Wp.exitS | apply Wp.retS | apply Wp.exit | apply Wp.ret | apply Wp.skip)
    apply round_next
    ·simp -implicitDefEqProofs (maxSteps := 2000000) (disch := first | exact tt_rfl rfl | omega | (simp only [go_sem] <;> omega) | fail) only [go_sem, norm_eq, Ok.some]; with_reducible rfl
    exact ⟨h, by simp, trivial⟩
   ·rw [e2, decide_eq_true ⟨c1, c2⟩] at e
    rw [e, if_pos rfl];generalize wrongTo d l i = W at *;repeat (first | apply Wp.seqA | apply Wp.skipS | apply Wp.blockS | ((first | apply Wp.regS | apply Wp.condV | apply Wp.reg | apply Wp.condW | apply fin_ret); simp -implicitDefEqProofs (maxSteps := 2000000) (disch := first | exact tt_rfl rfl | omega | (simp only [go_sem] <;> omega) | fail) only [go_sem, h, Int.ofNat_lt, a1, a2, hn2, hn3, c1, c2, hl1] <;> try with_reducible rfl) | apply Wp.block | apply Wp.exitS | apply Wp.retS | apply Wp.exit | apply Wp.ret | apply Wp.skip)
    apply round_next
    ·simp -implicitDefEqProofs (maxSteps := 2000000) (disch := first | exact tt_rfl rfl | omega | (simp only [go_sem] <;> omega) | fail) only [go_sem, norm_eq, Ok.some]; with_reducible rfl
    exact ⟨h, by simp [natsV], trivial⟩
 ·obtain rfl : i = l.length := by omega
  have hp := hpl l.length;have hl1 : (natsV (wrongTo d l l.length)).length = (wrongTo d l l.length).length := by simp
  change (natsV (wrongTo d l l.length)).all AV.plain = true at hp;have htk : (natsV (wrongTo d l l.length)).take (wrongTo d l l.length).length = natsV (wrongTo d l l.length) := List.take_of_length_le (by omega)
  generalize natsV (wrongTo d l l.length) = L at *;generalize (wrongTo d l l.length).length = n at *;repeat (first | apply Wp.seqA | apply Wp.skipS | apply Wp.blockS | ((first | apply Wp.regS | apply Wp.condV | apply Wp.reg | apply Wp.condW | apply fin_ret); simp -implicitDefEqProofs (maxSteps := 2000000) (disch := first | exact tt_rfl rfl | omega | (simp only [go_sem] <;> omega) | fail) only [go_sem, Int.lt_irrefl, hl1, hp, htk, hn3] <;> try with_reducible rfl) | apply Wp.block | apply Wp.exitS | apply Wp.retS | apply Wp.exit | apply Wp.ret | apply Wp.skip)
theorem set_at {l : List DesA} {i : Nat} (h : i < l.length) : (l.map DesA.av)[i]? = some (.agg [iv l[i].hk, .list 1 (l[i].rows.map fun n => iv n)]) := by
 rw [List.getElem?_map, List.getElem?_eq_getElem h]; rfl
def DesA.tv (d : DesA) : AV := .agg [iv d.hk, .own 1 (d.rows.map fun n => iv n)]
theorem int_plain1 (l : List Int) : (l.map fun n => iv n).all AV.plain1 = true := by simp [AV.plain1]
theorem own_ok (l : List DesA) (hl : l.length ≤ 1000) (hr : ∀ d ∈ l, d.rows.length ≤ 1000) : lim F 15 [.list 2 (l.map DesA.av)] = some (.ownT 2 (l.map DesA.tv), []) := by
 have hln : (l.map DesA.av).length = l.length := by simp
 have hlT : (l.map DesA.tv).length = l.length := by simp
 have hg := fun i (h : i < l.length) => set_at h
 have hC := fun i (h : i < l.length) => ints_ok l[i].rows (by have := hr _ (List.getElem_mem h); omega)
 have hst : ∀ i (h : i < l.length), (l.take (i + 1)).map DesA.tv = (l.take i).map DesA.tv ++ [.agg [iv l[i].hk, .own 1 (l[i].rows.map fun n => iv n)]] := fun i h => by
  rw [List.take_succ, List.getElem?_eq_getElem h, List.map_append]; rfl
 have hl0 : ∀ i, i ≤ l.length → ((l.take i).map DesA.tv).length = i := fun i h => by simp; omega
 generalize hes : l.map DesA.av = es at *;refine lim_by (fn := a15) (k := 1) (res := [.tmp 2]) rfl rfl rfl (by simp -implicitDefEqProofs (maxSteps := 2000000) (disch := first | exact tt_rfl rfl | omega | (simp only [go_sem] <;> omega) | fail) only [go_sem]) ?_
 try delta mvA
 try delta opA
 try delta tA
 simp -implicitDefEqProofs (maxSteps := 2000000) (disch := first | exact tt_rfl rfl | omega | (simp only [go_sem] <;> omega) | fail) only [go_sem]
 repeat (first | apply Wp.seqA | apply Wp.skipS | apply Wp.blockS | ((first | apply Wp.regS | apply Wp.condV | apply Wp.reg | apply Wp.condW | apply fin_ret); simp -implicitDefEqProofs (maxSteps := 2000000) (disch := first | exact tt_rfl rfl | omega | (simp only [go_sem] <;> omega) | fail) only [go_sem, hln] <;> try with_reducible rfl) | apply Wp.block | apply Wp.exitS | apply Wp.retS | apply Wp.exit | apply Wp.ret | apply Wp.skip)
 apply Wp.loopF l.length (fun i => ⟨[(0, .list 2 es), (3, .tabS 192 i), (4, iv (i : Int))], [(192, .tab 2 ((l.take i).map DesA.tv))], [], 10000000⟩) (fun _ => True)
 ·simp -implicitDefEqProofs (maxSteps := 2000000) (disch := first | exact tt_rfl rfl | omega | (simp only [go_sem] <;> omega) | fail) only [go_sem, norm_eq, Ok.some]
  rfl
 ·trivial
 intro i hi _;by_cases h : i < l.length
 ·have h1 := hg i h
  have h2 := hC i h;have e := hst i h;have hl1 := hl0 i (by omega)
  have P0 := int_plain l[i].rows;have P1 := int_plain1 l[i].rows;have hrl : (l[i].rows.map fun n => iv n).length = l[i].rows.length := by simp
  generalize (l.take (i + 1)).map DesA.tv = L' at *;generalize (l.take i).map DesA.tv = L at *;generalize (l[i].rows.map fun n => iv n) = Q at *
  repeat (first | apply Wp.seqA | apply Wp.skipS | apply Wp.blockS | ((first | apply Wp.regS | apply Wp.condV | apply Wp.reg | apply Wp.condW | apply fin_ret); simp -implicitDefEqProofs (maxSteps := 2000000) (disch := first | exact tt_rfl rfl | omega | (simp only [go_sem] <;> omega) | fail) only [go_sem, h, Int.ofNat_lt, h1, h2, hln, hl1, hrl, P0, P1] <;> try with_reducible rfl) | apply Wp.block | apply Wp.exitS | apply Wp.retS | apply Wp.exit | apply Wp.ret | apply Wp.skip)
  apply round_next
  ·simp -implicitDefEqProofs (maxSteps := 2000000) (disch := first | exact tt_rfl rfl | omega | (simp only [go_sem] <;> omega) | fail) only [go_sem, norm_eq, Ok.some]; with_reducible rfl
  exact ⟨h, by simp [e], trivial⟩
 ·obtain rfl : i = l.length := by omega
  rw [List.take_length];generalize l.map DesA.tv = M at *;repeat (first | apply Wp.seqA | apply Wp.skipS | apply Wp.blockS | ((first | apply Wp.regS | apply Wp.condV | apply Wp.reg | apply Wp.condW | apply fin_ret); simp -implicitDefEqProofs (maxSteps := 2000000) (disch := first | exact tt_rfl rfl | omega | (simp only [go_sem] <;> omega) | fail) only [go_sem, Int.lt_irrefl, hln, hlT] <;> try with_reducible rfl) | apply Wp.block | apply Wp.exitS | apply Wp.retS | apply Wp.exit | apply Wp.ret | apply Wp.skip)
end Go.Abs
