/-
 Chapter 1: designs that are changed, as the document makes them. No condition beyond those that each theorem names.
-/
import Derived.Test.YtkjlmfabhejbnaaDoorR1
import Derived.Test.YtkjlmfabhejbnaaDoorP4
set_option linter.all false
namespace Go.Abs
set_option maxRecDepth 10000
set_option maxHeartbeats 4000000
theorem Row_ok (l : List Bool) (hl : l.length ≤ 24) : lim F 65 [ringV l] = some (iv ((rowOf l : Nat) : Int), []) := by
 have hlen : (l.map fun b => AV.bool b).length = l.length := by simp
 have hA := fun (i : Nat) (hi : i < l.length) => ring_at hi
 unfold ringV;generalize l.map (fun b => AV.bool b) = es at *
 refine lim_by (fn := a65) (k := 1) (res := [.tmp 2]) rfl rfl rfl (by simp -implicitDefEqProofs (maxSteps := 2000000) (disch := first | exact tt_rfl rfl | omega | (simp only [go_sem] <;> omega) | fail) only [go_sem]) ?_
 try delta mvA
 try delta opA
 try delta tA
 simp -implicitDefEqProofs (maxSteps := 2000000) (disch := first | exact tt_rfl rfl | omega | (simp only [go_sem] <;> omega) | fail) only [go_sem]
 repeat (first | apply Wp.seqA | apply Wp.skipS | apply Wp.blockS | ((first | apply Wp.regS | apply Wp.condV | apply Wp.reg | apply Wp.condW | apply fin_ret); simp -implicitDefEqProofs (maxSteps := 2000000) (disch := first | exact tt_rfl rfl | omega | (simp only [go_sem] <;> omega) | fail) only [go_sem, hlen] <;> try with_reducible rfl) | apply Wp.block | apply Wp.exitS | apply Wp.retS | apply Wp.exit | apply Wp.ret | apply Wp.skip)
 apply Wp.loopF l.length (fun k => ⟨[(0, .list 1 es), (3, iv ((rowOf (l.drop (l.length - k)) : Nat) : Int)), (4, iv ((l.length : Int) - 1 - (k : Int)))], [], [], 10000000⟩) (fun _ => True)
 ·simp -implicitDefEqProofs (maxSteps := 2000000) (disch := first | exact tt_rfl rfl | omega | (simp only [go_sem] <;> omega) | fail) only [go_sem, norm_eq, Ok.some]
  simp [rowOf]
 ·trivial
 intro k hk _;by_cases h : k < l.length
 ·have ha := hA (l.length - 1 - k) (by omega)
  have e : ((l.length : Int) - 1 - (k : Int)).toNat = l.length - 1 - k := by omega
  have hd : rowOf (l.drop (l.length - (k + 1))) = rowOf (l.drop (l.length - k)) * 2 + if gb l (l.length - 1 - k) then 1 else 0 := by
   rw [show l.length - (k + 1) = l.length - 1 - k by omega, List.drop_eq_getElem_cons (by omega), rowOf_cons, gb_lt (by omega), show l.length - 1 - k + 1 = l.length - k by omega]
  have hlt := rowOf_lt (l.drop (l.length - k));rw [List.length_drop, show l.length - (l.length - k) = k by omega] at hlt
  have p1 : 2 ^ k ≤ 2 ^ 24 := Nat.pow_le_pow_right (by omega) (by omega)
  generalize rowOf (l.drop (l.length - k)) = v at *;generalize rowOf (l.drop (l.length - (k + 1))) = v' at *;have e3 : (l.length : Int) - 1 - ((k + 1 : Nat) : Int) = (l.length : Int) - 1 - (k : Int) - 1 := by omega
  cases hb : gb l (l.length - 1 - k) with
  | true =>
   rw [hb] at ha;rw [hb, if_pos rfl] at hd;repeat (first | apply Wp.seqA | apply Wp.skipS | apply Wp.blockS | ((first | apply Wp.regS | apply Wp.condV | apply Wp.reg | apply Wp.condW | apply fin_ret); simp -implicitDefEqProofs (maxSteps := 2000000) (disch := first | exact tt_rfl rfl | omega | (simp only [go_sem] <;> omega) | fail) only [go_sem, h, hlen, ha, e, show (0 : Int) ≤ (l.length : Int) - 1 - (k : Int) by omega] <;> try with_reducible rfl) | apply Wp.block | apply Wp.exitS | apply Wp.retS | apply Wp.exit | apply Wp.ret | apply Wp.skip)
   apply round_next
   ·simp -implicitDefEqProofs (maxSteps := 2000000) (disch := first | exact tt_rfl rfl | omega | (simp only [go_sem] <;> omega) | fail) only [go_sem, norm_eq, Ok.some]; with_reducible rfl
   refine ⟨h, ?_, trivial⟩;rw [hd, e3];simp
  | false =>
   rw [hb] at ha;rw [hb, if_neg (by simp)] at hd
   repeat (first | apply Wp.seqA | apply Wp.skipS | apply Wp.blockS | ((first | apply Wp.regS | apply Wp.condV | apply Wp.reg | apply Wp.condW | apply fin_ret); simp -implicitDefEqProofs (maxSteps := 2000000) (disch := first | exact tt_rfl rfl | omega | (simp only [go_sem] <;> omega) | fail) only [go_sem, h, hlen, ha, e, show (0 : Int) ≤ (l.length : Int) - 1 - (k : Int) by omega] <;> try with_reducible rfl) | apply Wp.block | apply Wp.exitS | apply Wp.retS | apply Wp.exit | apply Wp.ret | apply Wp.skip)
   apply round_next
   ·simp -implicitDefEqProofs (maxSteps := 2000000) (disch := first | exact tt_rfl rfl | omega | (simp only [go_sem] <;> omega) | fail) only [go_sem, norm_eq, Ok.some]; with_reducible rfl
   refine ⟨h, ?_, trivial⟩;rw [hd, e3];simp
 ·obtain rfl : k = l.length := by omega
  repeat (first | apply Wp.seqA | apply Wp.skipS | apply Wp.blockS | ((first | apply Wp.regS | apply Wp.condV | apply Wp.reg | apply Wp.condW | apply fin_ret); simp -implicitDefEqProofs (maxSteps := 2000000) (disch := first | exact tt_rfl rfl | omega | (simp only [go_sem] <;> omega) | fail) only [go_sem, show ¬ (0 : Int) ≤ (l.length : Int) - 1 - (l.length : Int) by omega] <;> try with_reducible rfl) | apply Wp.block | apply Wp.exitS | apply Wp.retS | apply Wp.exit | apply Wp.ret | apply Wp.skip)
  simp
theorem tab_at {t : List (List Bool)} {i : Nat} (h : i < t.length) : (tabV t)[i]? = some (ringV (t.getD i [])) := by
 unfold tabV;rw [List.getElem?_map, List.getElem?_eq_getElem h, List.getD_eq_getElem?_getD, List.getElem?_eq_getElem h]; rfl
theorem Design_ok (t : List (List Bool)) (n : Nat) (h0 : 0 < t.length) (ht : t.length ≤ 1000) (hn : ∀ l ∈ t, l.length = n) (hn' : n ≤ 24) : lim F 40 [.list 1 (tabV t)] = some (.agg [iv (n : Int), .own 1 (t.map fun l => iv ((rowOf l : Nat) : Int))], []) := by
 have hlT : (tabV t).length = t.length := by simp [tabV]
 have hg := fun i (h : i < t.length) => tab_at h
 have hD : ∀ i, i < t.length → (t.getD i []).length = n := fun i h => by
  rw [List.getD_eq_getElem?_getD, List.getElem?_eq_getElem h]; exact hn _ (List.getElem_mem h)
 have hR := fun i (h : i < t.length) => Row_ok (t.getD i []) (by rw [hD i h]; omega)
 have hlt : ∀ i, i < t.length → rowOf (t.getD i []) < 2 ^ 24 := fun i h => by
  have h1 := rowOf_lt (t.getD i []);rw [hD i h] at h1;have p1 : 2 ^ n ≤ 2 ^ 24 := Nat.pow_le_pow_right (by omega) (by omega)
  omega
 have hst : ∀ i, i < t.length → (t.take (i + 1)).map (fun l => iv ((rowOf l : Nat) : Int)) = (t.take i).map (fun l => iv ((rowOf l : Nat) : Int)) ++ [iv ((rowOf (t.getD i []) : Nat) : Int)] := fun i h => by
  rw [List.take_succ_eq_append_getElem h, List.map_append, List.getD_eq_getElem?_getD, List.getElem?_eq_getElem h]; rfl
 have hlr : ∀ i, ((t.take i).map fun l => iv ((rowOf l : Nat) : Int)).length ≤ 1000 := fun i => by simp; omega
 have hpl : (t.map fun l => iv ((rowOf l : Nat) : Int)).all AV.plain = true := by simp [AV.plain, AV.plain1]
 have g0 := hg 0 h0;have l0 := hD 0 h0;have lb0 : ((t.getD 0 []).map fun b => AV.bool b).length = n := by rw [List.length_map]; exact l0
 unfold ringV at *;generalize tabV t = tv at *;refine lim_by (fn := a40) (k := 1) (res := [.cell 2 2 true]) rfl rfl rfl (by simp -implicitDefEqProofs (maxSteps := 2000000) (disch := first | exact tt_rfl rfl | omega | (simp only [go_sem] <;> omega) | fail) only [go_sem]) ?_
 try delta mvA
 try delta opA
 try delta tA
 simp -implicitDefEqProofs (maxSteps := 2000000) (disch := first | exact tt_rfl rfl | omega | (simp only [go_sem] <;> omega) | fail) only [go_sem]
 repeat (first | apply Wp.seqA | apply Wp.skipS | apply Wp.blockS | ((first | apply Wp.regS | apply Wp.condV | apply Wp.reg | apply Wp.condW | apply fin_ret); simp -implicitDefEqProofs (maxSteps := 2000000) (disch := first | exact tt_rfl rfl | omega | (simp only [go_sem] <;> omega) | fail) only [go_sem, g0, lb0, hlT] <;> try with_reducible rfl) | apply Wp.block | apply Wp.exitS | apply Wp.retS | apply Wp.exit | apply Wp.ret | apply Wp.skip)
 apply Wp.loopF t.length (fun i => ⟨[(0, .list 1 tv), (2, .ptr 128 0 0), (3, .ptr 192 0 0), (4, iv (i : Int))], [(128, .box [iv 0, .slice 302049 0 0]), (192, .box [iv (n : Int), .slice 303073 0 ((t.take i).map fun l => iv ((rowOf l : Nat) : Int)).length]), (302049, .arr 1 []), (303073, .arr 1 ((t.take i).map fun l => iv ((rowOf l : Nat) : Int)))], [], 10000000⟩) (fun _ => True)
 ·simp -implicitDefEqProofs (maxSteps := 2000000) (disch := first | exact tt_rfl rfl | omega | (simp only [go_sem] <;> omega) | fail) only [go_sem, norm_eq, Ok.some]
  try simp
 ·trivial
 intro i hi _;by_cases h : i < t.length
 ·have hgi := hg i h
  have hRi := hR i h;have hs := hst i h;have hl := hlr i;have hb := hlt i h;generalize (t.take i).map (fun l => iv ((rowOf l : Nat) : Int)) = es at *
  generalize (t.take (i + 1)).map (fun l => iv ((rowOf l : Nat) : Int)) = es' at *
  generalize rowOf (t.getD i []) = r at *;repeat (first | apply Wp.seqA | apply Wp.skipS | apply Wp.blockS | ((first | apply Wp.regS | apply Wp.condV | apply Wp.reg | apply Wp.condW | apply fin_ret); simp -implicitDefEqProofs (maxSteps := 2000000) (disch := first | exact tt_rfl rfl | omega | (simp only [go_sem] <;> omega) | fail) only [go_sem, h, hlT, Int.ofNat_lt, hgi, hRi] <;> try with_reducible rfl) | apply Wp.block | apply Wp.exitS | apply Wp.retS | apply Wp.exit | apply Wp.ret | apply Wp.skip)
  apply round_next
  ·simp -implicitDefEqProofs (maxSteps := 2000000) (disch := first | exact tt_rfl rfl | omega | (simp only [go_sem] <;> omega) | fail) only [go_sem, norm_eq, Ok.some]; with_reducible rfl
  refine ⟨h, ?_, trivial⟩;rw [hs];simp
 ·obtain rfl : i = t.length := by omega
  rw [List.take_length];have hl : (t.map fun l => iv ((rowOf l : Nat) : Int)).length = t.length := by simp
  generalize t.map (fun l => iv ((rowOf l : Nat) : Int)) = es at *
  repeat (first | apply Wp.seqA | apply Wp.skipS | apply Wp.blockS | ((first | apply Wp.regS | apply Wp.condV | apply Wp.reg | apply Wp.condW | apply fin_ret); simp -implicitDefEqProofs (maxSteps := 2000000) (disch := first | exact tt_rfl rfl | omega | (simp only [go_sem] <;> omega) | fail) only [go_sem, hlT, Int.lt_irrefl, List.take_length, hpl] <;> try with_reducible rfl) | apply Wp.block | apply Wp.exitS | apply Wp.retS | apply Wp.exit | apply Wp.ret | apply Wp.skip)
end Go.Abs
