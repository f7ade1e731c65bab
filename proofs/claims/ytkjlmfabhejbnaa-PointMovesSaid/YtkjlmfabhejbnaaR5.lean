/-
  Chapter 1: Flip, Back and Shift, as the document makes them. No condition beyond those that each theorem names.
-/
import Derived.Test.YtkjlmfabhejbnaaR4
set_option linter.all false
namespace Go.Abs
set_option maxRecDepth 10000
set_option maxHeartbeats 4000000

theorem refFlip_ok (d : DesN) (hd : d.Ok) : lim F 50 [d.av] = some (.agg [iv (d.hk : Int), .own 1 (d.rows.reverse.map fun n : Nat => iv (n : Int))], []) := by
  have h60 := hd.r60
  have h24 := hd.h24
  have p1 : 2 ^ d.hk ≤ 2 ^ 24 := Nat.pow_le_pow_right (by omega) (by omega)
  have hlen : (d.rows.map fun n : Nat => iv (n : Int)).length = d.rows.length := by simp
  have hA := fun (i : Nat) (hi : i < d.rows.length) => nats_at hi
  have hpl := nat_plain d.rows.reverse
  have hrl : (d.rows.reverse.map fun n : Nat => iv (n : Int)).length = d.rows.length := by simp
  have hst : ∀ k, k < d.rows.length → (d.rows.reverse.map fun n : Nat => iv (n : Int)).take (k + 1) = (d.rows.reverse.map fun n : Nat => iv (n : Int)).take k ++ [iv ((d.rows.getD (d.rows.length - 1 - k) 0 : Nat) : Int)] := fun k hk => by
    rw [List.take_succ_eq_append_getElem (by simpa using hk)]
    congr 2
    rw [List.getElem_map, List.getElem_reverse, rows_get (by omega)]
  unfold DesN.av natsV at *
  generalize d.rows.map (fun n : Nat => iv (n : Int)) = es at *
  generalize d.rows.reverse.map (fun n : Nat => iv (n : Int)) = rs at *
  refine lim_by (fn := a50) (k := 1) (res := [.cell 2 2 true]) rfl rfl rfl (by simp -implicitDefEqProofs (maxSteps := 2000000) (disch := first | exact tt_rfl rfl | omega | (simp only [go_sem] <;> omega) | fail) only [go_sem]) ?_
  simp -implicitDefEqProofs (maxSteps := 2000000) (disch := first | exact tt_rfl rfl | omega | (simp only [go_sem] <;> omega) | fail) only [go_sem]
  repeat (first | apply Wp.seqA | apply Wp.skipS | apply Wp.blockS | ((first | apply Wp.regS | apply Wp.condV | apply Wp.reg | apply Wp.condW | apply fin_ret); simp -implicitDefEqProofs (maxSteps := 2000000) (disch := first | exact tt_rfl rfl | omega | (simp only [go_sem] <;> omega) | fail) only [go_sem, hlen] <;> try with_reducible rfl) | apply Wp.block | apply Wp.exitS | apply Wp.retS | apply Wp.exit | apply Wp.ret | apply Wp.skip)
  apply Wp.loopF d.rows.length (fun k => ⟨[(1, .ptr 64 0 0), (2, .ptr 128 0 0), (3, .ptr 192 0 0), (4, iv ((d.rows.length : Int) - 1 - (k : Int)))], [(64, .box [iv (d.hk : Int), .list 1 es]), (128, .box [iv 0, .slice 302049 0 0]), (192, .box [iv (d.hk : Int), .slice 303073 0 k]), (302049, .arr 1 []), (303073, .arr 1 (rs.take k))], [], 10000000⟩) (fun _ => True)
  · simp -implicitDefEqProofs (maxSteps := 2000000) (disch := first | exact tt_rfl rfl | omega | (simp only [go_sem] <;> omega) | fail) only [go_sem, norm_eq, Ok.some]
    try simp
  · trivial
  intro k hk _
  by_cases h : k < d.rows.length
  · have ha := hA (d.rows.length - 1 - k) (by omega)
    have hs := hst k h
    have htl : (rs.take k).length = k := by rw [List.length_take]; omega
    have e : ((d.rows.length : Int) - 1 - (k : Int)).toNat = d.rows.length - 1 - k := by omega
    generalize rs.take k = fs at *
    generalize rs.take (k + 1) = fs' at *
    generalize d.rows.getD (d.rows.length - 1 - k) 0 = v at *
    repeat (first | apply Wp.seqA | apply Wp.skipS | apply Wp.blockS | ((first | apply Wp.regS | apply Wp.condV | apply Wp.reg | apply Wp.condW | apply fin_ret); simp -implicitDefEqProofs (maxSteps := 2000000) (disch := first | exact tt_rfl rfl | omega | (simp only [go_sem] <;> omega) | fail) only [go_sem, h, hlen, ha, e, htl, show (0 : Int) ≤ (d.rows.length : Int) - 1 - (k : Int) by omega] <;> try with_reducible rfl) | apply Wp.block | apply Wp.exitS | apply Wp.retS | apply Wp.exit | apply Wp.ret | apply Wp.skip)
    apply round_next
    · simp -implicitDefEqProofs (maxSteps := 2000000) (disch := first | exact tt_rfl rfl | omega | (simp only [go_sem] <;> omega) | fail) only [go_sem, norm_eq, Ok.some]; with_reducible rfl
    refine ⟨h, ?_, trivial⟩
    rw [hs, show ((d.rows.length : Int) - 1 - ((k + 1 : Nat) : Int)) = (d.rows.length : Int) - 1 - (k : Int) - 1 by omega]
    try simp
  · obtain rfl : k = d.rows.length := by omega
    have etk : rs.take d.rows.length = rs := List.take_of_length_le (by omega)
    rw [etk]
    repeat (first | apply Wp.seqA | apply Wp.skipS | apply Wp.blockS | ((first | apply Wp.regS | apply Wp.condV | apply Wp.reg | apply Wp.condW | apply fin_ret); simp -implicitDefEqProofs (maxSteps := 2000000) (disch := first | exact tt_rfl rfl | omega | (simp only [go_sem] <;> omega) | fail) only [go_sem, show ¬ (0 : Int) ≤ (d.rows.length : Int) - 1 - (d.rows.length : Int) by omega, hrl, etk, hpl] <;> try with_reducible rfl) | apply Wp.block | apply Wp.exitS | apply Wp.retS | apply Wp.exit | apply Wp.ret | apply Wp.skip)

theorem refBack_ok (d : DesN) (hd : d.Ok) : lim F 51 [d.av] = some (.agg [iv (d.hk : Int), .own 1 ((d.rows.map fun r => 2 ^ d.hk - 1 - r).map fun n : Nat => iv (n : Int))], []) := by
  have h60 := hd.r60
  have h24 := hd.h24
  have p1 : 2 ^ d.hk ≤ 2 ^ 24 := Nat.pow_le_pow_right (by omega) (by omega)
  have p2 : 0 < 2 ^ d.hk := Nat.pow_pos (by omega)
  have hlen : (d.rows.map fun n : Nat => iv (n : Int)).length = d.rows.length := by simp
  have hA := fun (i : Nat) (hi : i < d.rows.length) => nats_at hi
  have hB : ∀ i, i < d.rows.length → d.rows.getD i 0 < 2 ^ d.hk := fun i hi => by
    rw [rows_get hi]; exact hd.lt _ (List.getElem_mem hi)
  have s1 := w_shl1 d.hk (by omega)
  have u1 : IntKind.wrap .u64 (d.hk : Int) = d.hk := wrap_u64 (by omega) (by omega)
  have hpl := nat_plain (d.rows.map fun r => 2 ^ d.hk - 1 - r)
  have hrl : ((d.rows.map fun r => 2 ^ d.hk - 1 - r).map fun n : Nat => iv (n : Int)).length = d.rows.length := by simp
  have hst : ∀ k, k < d.rows.length → ((d.rows.map fun r => 2 ^ d.hk - 1 - r).map fun n : Nat => iv (n : Int)).take (k + 1) = ((d.rows.map fun r => 2 ^ d.hk - 1 - r).map fun n : Nat => iv (n : Int)).take k ++ [iv (((2 ^ d.hk : Nat) : Int) - 1 - ((d.rows.getD k 0 : Nat) : Int))] := fun k hk => by
    rw [List.take_succ_eq_append_getElem (by simpa using hk)]
    congr 2
    have := hB k hk
    rw [List.getElem_map, List.getElem_map, ← rows_get hk]
    congr 1
    omega
  unfold DesN.av natsV at *
  generalize (d.rows.map fun r => 2 ^ d.hk - 1 - r).map (fun n : Nat => iv (n : Int)) = rs at *
  generalize d.rows.map (fun n : Nat => iv (n : Int)) = es at *
  generalize 2 ^ d.hk = m at *
  refine lim_by (fn := a51) (k := 1) (res := [.cell 2 2 true]) rfl rfl rfl (by simp -implicitDefEqProofs (maxSteps := 2000000) (disch := first | exact tt_rfl rfl | omega | (simp only [go_sem] <;> omega) | fail) only [go_sem]) ?_
  simp -implicitDefEqProofs (maxSteps := 2000000) (disch := first | exact tt_rfl rfl | omega | (simp only [go_sem] <;> omega) | fail) only [go_sem]
  repeat (first | apply Wp.seqA | apply Wp.skipS | apply Wp.blockS | ((first | apply Wp.regS | apply Wp.condV | apply Wp.reg | apply Wp.condW | apply fin_ret); simp -implicitDefEqProofs (maxSteps := 2000000) (disch := first | exact tt_rfl rfl | omega | (simp only [go_sem] <;> omega) | fail) only [go_sem, hlen] <;> try with_reducible rfl) | apply Wp.block | apply Wp.exitS | apply Wp.retS | apply Wp.exit | apply Wp.ret | apply Wp.skip)
  apply Wp.loopF d.rows.length (fun k => ⟨[(1, .ptr 64 0 0), (2, .ptr 128 0 0), (3, .ptr 192 0 0), (4, iv (k : Int))], [(64, .box [iv (d.hk : Int), .list 1 es]), (128, .box [iv 0, .slice 302049 0 0]), (192, .box [iv (d.hk : Int), .slice 303073 0 k]), (302049, .arr 1 []), (303073, .arr 1 (rs.take k))], [], 10000000⟩) (fun _ => True)
  · simp -implicitDefEqProofs (maxSteps := 2000000) (disch := first | exact tt_rfl rfl | omega | (simp only [go_sem] <;> omega) | fail) only [go_sem, norm_eq, Ok.some]
    try simp
  · trivial
  intro k hk _
  by_cases h : k < d.rows.length
  · have ha := hA k h
    have hs := hst k h
    have hb := hB k h
    have htl : (rs.take k).length = k := by rw [List.length_take]; omega
    generalize rs.take k = fs at *
    generalize rs.take (k + 1) = fs' at *
    generalize d.rows.getD k 0 = v at *
    repeat (first | apply Wp.seqA | apply Wp.skipS | apply Wp.blockS | ((first | apply Wp.regS | apply Wp.condV | apply Wp.reg | apply Wp.condW | apply fin_ret); simp -implicitDefEqProofs (maxSteps := 2000000) (disch := first | exact tt_rfl rfl | omega | (simp only [go_sem] <;> omega) | fail) only [go_sem, h, hlen, Int.ofNat_lt, ha, htl, s1, u1, Int.toNat_natCast] <;> try with_reducible rfl) | apply Wp.block | apply Wp.exitS | apply Wp.retS | apply Wp.exit | apply Wp.ret | apply Wp.skip)
    apply round_next
    · simp -implicitDefEqProofs (maxSteps := 2000000) (disch := first | exact tt_rfl rfl | omega | (simp only [go_sem] <;> omega) | fail) only [go_sem, norm_eq, Ok.some]; with_reducible rfl
    refine ⟨h, ?_, trivial⟩
    rw [hs]
    simp
  · obtain rfl : k = d.rows.length := by omega
    have etk : rs.take d.rows.length = rs := List.take_of_length_le (by omega)
    rw [etk]
    repeat (first | apply Wp.seqA | apply Wp.skipS | apply Wp.blockS | ((first | apply Wp.regS | apply Wp.condV | apply Wp.reg | apply Wp.condW | apply fin_ret); simp -implicitDefEqProofs (maxSteps := 2000000) (disch := first | exact tt_rfl rfl | omega | (simp only [go_sem] <;> omega) | fail) only [go_sem, hlen, Int.lt_irrefl, hrl, etk, hpl] <;> try with_reducible rfl) | apply Wp.block | apply Wp.exitS | apply Wp.retS | apply Wp.exit | apply Wp.ret | apply Wp.skip)

def turnT (l : List Bool) (b : Nat) : List Bool := l.drop (l.length - b) ++ l.take (l.length - b)
theorem Turned_ok (l : List Bool) (b : Nat) (hl : l.length ≤ 1000) (hb : b ≤ l.length) : lim F 88 [ringV l, iv (b : Int)] = some (.own 1 ((turnT l b).map fun b => .bool b), []) := by
  have hlen : (l.map fun b => AV.bool b).length = l.length := by simp
  have e : ((l.length : Int) - (b : Int)).toNat = l.length - b := by omega
  have e2 : ((l.length : Int) - (b : Int) - 0).toNat = l.length - b := by omega
  have et : (turnT l b).map (fun b => AV.bool b) = (l.map fun b => AV.bool b).drop (l.length - b) ++ (l.map fun b => AV.bool b).take (l.length - b) := by
    unfold turnT; rw [List.map_append, List.map_drop, List.map_take]
  have hpl := bool_plain (turnT l b)
  rw [et] at hpl
  rw [et]
  unfold ringV
  have e3 : ((l.map fun b => AV.bool b).drop (l.length - b)).take ((l.length : Int) - ((l.length : Int) - (b : Int))).toNat = (l.map fun b => AV.bool b).drop (l.length - b) := List.take_of_length_le (by rw [List.length_drop, hlen]; omega)
  generalize l.map (fun b => AV.bool b) = es at *
  refine lim_by (fn := a88) (k := 2) (res := [.tmp 4]) rfl rfl rfl (by simp -implicitDefEqProofs (maxSteps := 2000000) (disch := first | exact tt_rfl rfl | omega | (simp only [go_sem] <;> omega) | fail) only [go_sem]) ?_
  simp -implicitDefEqProofs (maxSteps := 2000000) (disch := first | exact tt_rfl rfl | omega | (simp only [go_sem] <;> omega) | fail) only [go_sem]
  repeat (first | apply Wp.seqA | apply Wp.skipS | apply Wp.blockS | ((first | apply Wp.regS | apply Wp.condV | apply Wp.reg | apply Wp.condW | apply fin_ret); simp -implicitDefEqProofs (maxSteps := 2000000) (disch := first | exact tt_rfl rfl | omega | (simp only [go_sem] <;> omega) | fail) only [go_sem, hlen, e, e2, e3, hpl] <;> try with_reducible rfl) | apply Wp.block | apply Wp.exitS | apply Wp.retS | apply Wp.exit | apply Wp.ret | apply Wp.skip)

/-- some rows of a table, shifted -/
def shTo (t : List (List Bool)) (a b i : Nat) : List (List Bool) := (List.range i).map fun q => turnT (t.getD ((q + t.length - a) % t.length) []) b
theorem shTo_succ (t : List (List Bool)) (a b i : Nat) : shTo t a b (i + 1) = shTo t a b i ++ [turnT (t.getD ((i + t.length - a) % t.length) []) b] := by
  unfold shTo; rw [List.range_succ]; simp
theorem turnT_len (l : List Bool) (b : Nat) : (turnT l b).length = l.length := by
  unfold turnT; rw [List.length_append, List.length_drop, List.length_take]; omega
theorem refShift_ok (d : DesN) (hd : d.Ok) (a b : Nat) (ha : a < d.rows.length) (hb : b < d.hk) : lim F 52 [d.av, iv (a : Int), iv (b : Int)] = some (.agg [iv (d.hk : Int), .own 1 ((shTo (tabN d d.rows.length) a b d.rows.length).map fun l => iv ((rowOf l : Nat) : Int))], []) := by
  have h60 := hd.r60
  have h24 := hd.h24
  have hr1 := hd.r1
  have hT := Table_ok d hd
  have hlt : (tabN d d.rows.length).length = d.rows.length := by simp [tabN]
  have hall : ∀ i, i < d.rows.length → ((tabN d d.rows.length).getD i []).length = d.hk := by
    intro i hi
    rw [List.getD_eq_getElem?_getD, List.getElem?_eq_getElem (by omega)]
    have hm := List.getElem_mem (show i < (tabN d d.rows.length).length by omega)
    unfold tabN at hm
    obtain ⟨r, _, hr⟩ := List.mem_map.1 hm
    simp only [Option.getD_some]
    unfold tabN at *
    rw [← hr]; simp [ptsT]
  have hmod : ∀ i, (i + d.rows.length - a) % d.rows.length < d.rows.length := fun i => Nat.mod_lt _ (by omega)
  have hD := Design_ok (shTo (tabN d d.rows.length) a b d.rows.length) d.hk (by simp [shTo]; omega) (by simp [shTo]; omega) (fun l hl => by
    unfold shTo at hl
    obtain ⟨q, hq, rfl⟩ := List.mem_map.1 hl
    rw [turnT_len, hlt]
    exact hall _ (hmod q)) (by omega)
  have hg := fun i h => tab_at (t := tabN d d.rows.length) (i := i) h
  have hlv : (tabV (tabN d d.rows.length)).length = d.rows.length := by simp [tabV, hlt]
  have hU : ∀ i, i < d.rows.length → lim F 88 [ringV ((tabN d d.rows.length).getD ((i + d.rows.length - a) % d.rows.length) []), iv (b : Int)] = some (.own 1 ((turnT ((tabN d d.rows.length).getD ((i + d.rows.length - a) % d.rows.length) []) b).map fun b => .bool b), []) := fun i hi => by
    have h := hall _ (hmod i)
    exact Turned_ok _ b (by omega) (by omega)
  have hst := shTo_succ (tabN d d.rows.length) a b
  have hpl : ((shTo (tabN d d.rows.length) a b d.rows.length).map fun l => iv ((rowOf l : Nat) : Int)).all AV.plain = true := by simp [AV.plain, AV.plain1]
  have hpll : ((shTo (tabN d d.rows.length) a b d.rows.length).map fun l => iv ((rowOf l : Nat) : Int)).length = d.rows.length := by simp [shTo]
  rw [hlt] at hg hst
  generalize (shTo (tabN d d.rows.length) a b d.rows.length).map (fun l => iv ((rowOf l : Nat) : Int)) = out at *
  generalize tabN d d.rows.length = t at *
  have hsl : ∀ i, (tabV (shTo t a b i)).length = i := fun i => by simp [tabV, shTo]
  unfold DesN.av at *
  generalize d.rows.map (fun n : Nat => iv (n : Int)) = rs at *
  refine lim_by (fn := a52) (k := 3) (res := [.cell 6 2 true]) rfl rfl rfl (by simp -implicitDefEqProofs (maxSteps := 2000000) (disch := first | exact tt_rfl rfl | omega | (simp only [go_sem] <;> omega) | fail) only [go_sem]) ?_
  simp -implicitDefEqProofs (maxSteps := 2000000) (disch := first | exact tt_rfl rfl | omega | (simp only [go_sem] <;> omega) | fail) only [go_sem]
  repeat (first | apply Wp.seqA | apply Wp.skipS | apply Wp.blockS | ((first | apply Wp.regS | apply Wp.condV | apply Wp.reg | apply Wp.condW | apply fin_ret); simp -implicitDefEqProofs (maxSteps := 2000000) (disch := first | exact tt_rfl rfl | omega | (simp only [go_sem] <;> omega) | fail) only [go_sem, hT, hlv, ite_self] <;> try with_reducible rfl) | apply Wp.block | apply Wp.exitS | apply Wp.retS | apply Wp.exit | apply Wp.ret | apply Wp.skip)
  apply Wp.loopF d.rows.length (fun i => ⟨[(1, iv (a : Int)), (2, iv (b : Int)), (6, .ptr 384 0 0), (7, .slice 448 0 d.rows.length), (8, .slice 512 0 i), (9, iv (i : Int))], [(384, .box [iv 0, .slice 306145 0 0]), (448, .arr 1 (tabV t)), (512, .arr 1 (tabV (shTo t a b i))), (306145, .arr 1 [])], [], 10000000⟩) (fun _ => True)
  · simp -implicitDefEqProofs (maxSteps := 2000000) (disch := first | exact tt_rfl rfl | omega | (simp only [go_sem] <;> omega) | fail) only [go_sem, norm_eq, Ok.some]
    try rfl
  · trivial
  intro i hi _
  by_cases h : i < d.rows.length
  · have hgi := hg _ (hmod i)
    have hUi := hU i h
    have hmi := hmod i
    have hli := hsl i
    have hti : (turnT (t.getD ((i + d.rows.length - a) % d.rows.length) []) b).length = d.hk := by rw [turnT_len]; exact hall _ hmi
    have e : Int.tmod ((i : Int) + (d.rows.length : Int) - (a : Int)) (d.rows.length : Int) = (((i + d.rows.length - a) % d.rows.length : Nat) : Int) := by
      rw [show (i : Int) + (d.rows.length : Int) - (a : Int) = ((i + d.rows.length - a : Nat) : Int) by omega, Int.tmod_eq_emod_of_nonneg (Int.natCast_nonneg _)]; simp
    have hs : tabV (shTo t a b (i + 1)) = tabV (shTo t a b i) ++ [ringV (turnT (t.getD ((i + d.rows.length - a) % d.rows.length) []) b)] := by
      rw [hst]; unfold tabV; rw [List.map_append]; rfl
    have hbp := bool_plain (turnT (t.getD ((i + d.rows.length - a) % d.rows.length) []) b)
    have hbl : ((turnT (t.getD ((i + d.rows.length - a) % d.rows.length) []) b).map fun b => AV.bool b).length = d.hk := by rw [List.length_map]; exact hti
    have etk : ((turnT (t.getD ((i + d.rows.length - a) % d.rows.length) []) b).map fun b => AV.bool b).take d.hk = (turnT (t.getD ((i + d.rows.length - a) % d.rows.length) []) b).map fun b => AV.bool b := List.take_of_length_le (by omega)
    unfold ringV at *
    generalize (turnT (t.getD ((i + d.rows.length - a) % d.rows.length) []) b).map (fun b => AV.bool b) = rv at *
    generalize t.getD ((i + d.rows.length - a) % d.rows.length) [] = tl at *
    generalize (i + d.rows.length - a) % d.rows.length = m at *
    generalize tabV (shTo t a b i) = tv at *
    generalize tabV (shTo t a b (i + 1)) = tv' at *
    repeat (first | apply Wp.seqA | apply Wp.skipS | apply Wp.blockS | ((first | apply Wp.regS | apply Wp.condV | apply Wp.reg | apply Wp.condW | apply fin_ret); simp -implicitDefEqProofs (maxSteps := 2000000) (disch := first | exact tt_rfl rfl | omega | (simp only [go_sem] <;> omega) | fail) only [go_sem, h, Int.ofNat_lt, hlv, e, hgi, hUi, hli, hbl, etk, hbp, Int.toNat_natCast, show (d.rows.length : Int) ≠ 0 by omega] <;> try with_reducible rfl) | apply Wp.block | apply Wp.exitS | apply Wp.retS | apply Wp.exit | apply Wp.ret | apply Wp.skip)
    apply round_next
    · simp -implicitDefEqProofs (maxSteps := 2000000) (disch := first | exact tt_rfl rfl | omega | (simp only [go_sem] <;> omega) | fail) only [go_sem, norm_eq, Ok.some]; with_reducible rfl
    refine ⟨h, ?_, trivial⟩
    rw [hs]
    simp
  · obtain rfl : i = d.rows.length := by omega
    have hli := hsl d.rows.length
    have etk : (tabV (shTo t a b d.rows.length)).take d.rows.length = tabV (shTo t a b d.rows.length) := List.take_of_length_le (by omega)
    generalize tabV (shTo t a b d.rows.length) = tv at *
    repeat (first | apply Wp.seqA | apply Wp.skipS | apply Wp.blockS | ((first | apply Wp.regS | apply Wp.condV | apply Wp.reg | apply Wp.condW | apply fin_ret); simp -implicitDefEqProofs (maxSteps := 2000000) (disch := first | exact tt_rfl rfl | omega | (simp only [go_sem] <;> omega) | fail) only [go_sem, Int.lt_irrefl, hD, hlv, hli, etk, hpl, hpll, List.take_length, ite_self] <;> try with_reducible rfl) | apply Wp.block | apply Wp.exitS | apply Wp.retS | apply Wp.exit | apply Wp.ret | apply Wp.skip)

theorem none_ok (hk : Int) (rows : List AV) (hl : rows.length ≤ 1000000) : lim F 30 [.agg [iv hk, .list 1 rows]] = some (.bool (decide (hk = 0) && decide (rows = [])), []) := by
  by_cases h1 : hk = 0
  · by_cases h2 : rows = []
    · subst h1 h2
      refine lim_by (fn := a30) (k := 1) (res := [.tmp 2]) rfl rfl rfl (by simp -implicitDefEqProofs (maxSteps := 2000000) (disch := first | exact tt_rfl rfl | omega | (simp only [go_sem] <;> omega) | fail) only [go_sem]) ?_
      simp -implicitDefEqProofs (maxSteps := 2000000) (disch := first | exact tt_rfl rfl | omega | (simp only [go_sem] <;> omega) | fail) only [go_sem]
      repeat (first | apply Wp.seqA | apply Wp.skipS | apply Wp.blockS | ((first | apply Wp.regS | apply Wp.condV | apply Wp.reg | apply Wp.condW | apply fin_ret); simp -implicitDefEqProofs (maxSteps := 2000000) (disch := first | exact tt_rfl rfl | omega | (simp only [go_sem] <;> omega) | fail) only [go_sem, List.length_nil, Int.natCast_zero] <;> try with_reducible rfl) | apply Wp.block | apply Wp.exitS | apply Wp.retS | apply Wp.exit | apply Wp.ret | apply Wp.skip)
    · have : 0 < rows.length := List.length_pos_iff.2 h2
      rw [decide_eq_false h2, Bool.and_false]
      refine lim_by (fn := a30) (k := 1) (res := [.tmp 2]) rfl rfl rfl (by simp -implicitDefEqProofs (maxSteps := 2000000) (disch := first | exact tt_rfl rfl | omega | (simp only [go_sem] <;> omega) | fail) only [go_sem]) ?_
      simp -implicitDefEqProofs (maxSteps := 2000000) (disch := first | exact tt_rfl rfl | omega | (simp only [go_sem] <;> omega) | fail) only [go_sem]
      repeat (first | apply Wp.seqA | apply Wp.skipS | apply Wp.blockS | ((first | apply Wp.regS | apply Wp.condV | apply Wp.reg | apply Wp.condW | apply fin_ret); simp -implicitDefEqProofs (maxSteps := 2000000) (disch := first | exact tt_rfl rfl | omega | (simp only [go_sem] <;> omega) | fail) only [go_sem, h1, show ¬ (rows.length : Int) = 0 by omega] <;> try with_reducible rfl) | apply Wp.block | apply Wp.exitS | apply Wp.retS | apply Wp.exit | apply Wp.ret | apply Wp.skip)
  · rw [decide_eq_false h1, Bool.false_and]
    refine lim_by (fn := a30) (k := 1) (res := [.tmp 2]) rfl rfl rfl (by simp -implicitDefEqProofs (maxSteps := 2000000) (disch := first | exact tt_rfl rfl | omega | (simp only [go_sem] <;> omega) | fail) only [go_sem]) ?_
    simp -implicitDefEqProofs (maxSteps := 2000000) (disch := first | exact tt_rfl rfl | omega | (simp only [go_sem] <;> omega) | fail) only [go_sem]
    repeat (first | apply Wp.seqA | apply Wp.skipS | apply Wp.blockS | ((first | apply Wp.regS | apply Wp.condV | apply Wp.reg | apply Wp.condW | apply fin_ret); simp -implicitDefEqProofs (maxSteps := 2000000) (disch := first | exact tt_rfl rfl | omega | (simp only [go_sem] <;> omega) | fail) only [go_sem, h1] <;> try with_reducible rfl) | apply Wp.block | apply Wp.exitS | apply Wp.retS | apply Wp.exit | apply Wp.ret | apply Wp.skip)
theorem gets_same (hk : Int) (l : List Int) (hl : l.length ≤ 1000000) : lim F 48 [.agg [iv hk, .list 1 (l.map fun n => iv n)], iv 0, .agg [iv hk, .list 1 (l.map fun n => iv n)], iv 0] = some (.bool true, []) := by
  have hs := Same_ok ⟨hk, l⟩ ⟨hk, l⟩ hl
  rw [show sameT ⟨hk, l⟩ ⟨hk, l⟩ = true by unfold sameT; simp] at hs
  unfold DesA.av at hs
  dsimp only at hs
  refine lim_by (fn := a48) (k := 4) (res := [.tmp 8]) rfl rfl rfl (by simp -implicitDefEqProofs (maxSteps := 2000000) (disch := first | exact tt_rfl rfl | omega | (simp only [go_sem] <;> omega) | fail) only [go_sem]) ?_
  simp -implicitDefEqProofs (maxSteps := 2000000) (disch := first | exact tt_rfl rfl | omega | (simp only [go_sem] <;> omega) | fail) only [go_sem]
  repeat (first | apply Wp.seqA | apply Wp.skipS | apply Wp.blockS | ((first | apply Wp.regS | apply Wp.condV | apply Wp.reg | apply Wp.condW | apply fin_ret); simp -implicitDefEqProofs (maxSteps := 2000000) (disch := first | exact tt_rfl rfl | omega | (simp only [go_sem] <;> omega) | fail) only [go_sem, hs] <;> try with_reducible rfl) | apply Wp.block | apply Wp.exitS | apply Wp.retS | apply Wp.exit | apply Wp.ret | apply Wp.skip)
theorem gets_due (e : Int) (he : e ≠ 0) (hk : Int) (rows : List AV) : lim F 48 [.agg [iv 0, .list 1 []], iv e, .agg [iv hk, .list 1 rows], iv e] = some (.bool true, []) := by
  have hs := none_ok 0 [] (by simp)
  simp only [decide_true, Bool.and_self] at hs
  refine lim_by (fn := a48) (k := 4) (res := [.tmp 8]) rfl rfl rfl (by simp -implicitDefEqProofs (maxSteps := 2000000) (disch := first | exact tt_rfl rfl | omega | (simp only [go_sem] <;> omega) | fail) only [go_sem]) ?_
  simp -implicitDefEqProofs (maxSteps := 2000000) (disch := first | exact tt_rfl rfl | omega | (simp only [go_sem] <;> omega) | fail) only [go_sem]
  repeat (first | apply Wp.seqA | apply Wp.skipS | apply Wp.blockS | ((first | apply Wp.regS | apply Wp.condV | apply Wp.reg | apply Wp.condW | apply fin_ret); simp -implicitDefEqProofs (maxSteps := 2000000) (disch := first | exact tt_rfl rfl | omega | (simp only [go_sem] <;> omega) | fail) only [go_sem, hs, he] <;> try with_reducible rfl) | apply Wp.block | apply Wp.exitS | apply Wp.retS | apply Wp.exit | apply Wp.ret | apply Wp.skip)
end Go.Abs
