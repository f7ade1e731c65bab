/-
  Chapter 1: the floats of a design. No condition beyond those that each theorem names.
-/
import Derived.Test.YthafpdlfdkddpaaP3
set_option linter.all false
namespace Go.Abs
set_option maxRecDepth 10000
set_option maxHeartbeats 2000000

abbrev natsV (l : List Nat) : List AV := l.map fun n : Nat => iv (n : Int)
theorem nats_at {l : List Nat} {i : Nat} (h : i < l.length) : (natsV l)[i]? = some (iv ((l.getD i 0 : Nat) : Int)) := by
  unfold natsV
  rw [List.getElem?_map, List.getElem?_eq_getElem h, List.getD_eq_getElem?_getD, List.getElem?_eq_getElem h]; rfl
theorem bit_eq (r h : Nat) : decide (((r >>> h &&& 1 : Nat) : Int) = 1) = r.testBit h := by
  rw [shr_and1]
  cases r.testBit h <;> simp
theorem pick_ok (d : DesN) (hd : d.Ok) (p : Nat) (hp : p < d.rows.length) : lim F 62 [d.av, iv (p : Int)] = some (.own 1 ((pickR d p).map fun b => .bool b), []) := by
  have h24 := hd.h24
  have p1 : 2 ^ d.hk ≤ 2 ^ 24 := Nat.pow_le_pow_right (by omega) (by omega)
  have hlt := hd.lt _ (List.getElem_mem hp)
  rw [← rows_get hp] at hlt
  have hg := nats_at hp
  unfold DesN.av
  change lim F _ [.agg [_, .list 1 (natsV d.rows)], _] = _
  have hR : ∀ n, ((List.range n).map fun h => AV.bool ((d.rows.getD p 0).testBit h)).length = n := fun n => by simp
  have hpl : ∀ n, ((List.range n).map fun h => AV.bool ((d.rows.getD p 0).testBit h)).all AV.plain = true := fun n => by simp [AV.plain, AV.plain1]
  have eR : (pickR d p).map (fun b => AV.bool b) = (List.range d.hk).map fun h => AV.bool ((d.rows.getD p 0).testBit h) := by unfold pickR; rw [List.map_map]; rfl
  rw [eR]
  generalize d.rows.getD p 0 = r at *
  refine lim_by (fn := a62) (k := 2) (res := [.tmp 4]) rfl rfl rfl (by simp -implicitDefEqProofs (maxSteps := 2000000) (disch := first | exact tt_rfl rfl | omega | (simp only [go_sem] <;> omega) | fail) only [go_sem]) ?_
  try delta mvA
  try delta opA
  try delta tA
  simp -implicitDefEqProofs (maxSteps := 2000000) (disch := first | exact tt_rfl rfl | omega | (simp only [go_sem] <;> omega) | fail) only [go_sem]
  repeat (first | apply Wp.seqA | apply Wp.skipS | apply Wp.blockS | ((first | apply Wp.regS | apply Wp.condV | apply Wp.reg | apply Wp.condW | apply fin_ret); simp -implicitDefEqProofs (maxSteps := 2000000) (disch := first | exact tt_rfl rfl | omega | (simp only [go_sem] <;> omega) | fail) only [go_sem] <;> try with_reducible rfl) | apply Wp.block | apply Wp.exitS | apply Wp.retS | apply Wp.exit | apply Wp.ret | apply Wp.skip)
  apply Wp.loopF d.hk (fun i => ⟨[(1, iv (p : Int)), (2, .ptr 128 0 0), (4, .slice 256 0 i), (8, iv (d.hk : Int)), (9, iv (i : Int))], [(128, .box [iv (d.hk : Int), .list 1 (natsV d.rows)]), (256, .arr 1 ((List.range i).map fun h => .bool (r.testBit h)))], [], 10000000⟩) (fun _ => True)
  · simp -implicitDefEqProofs (maxSteps := 2000000) (disch := first | exact tt_rfl rfl | omega | (simp only [go_sem] <;> omega) | fail) only [go_sem, norm_eq, Ok.some]
    rfl
  · trivial
  intro i hi _
  by_cases h : i < d.hk
  · have s1 := w_shr r i (by omega)
    have sb : r >>> i < 9223372036854775808 := by rw [Nat.shiftRight_eq_div_pow]; have := Nat.div_le_self r (2 ^ i); omega
    have s2 := w_and1 (r >>> i) sb
    have eb := bit_eq r i
    have hl := hR i
    have e3 : (List.range (i + 1)).map (fun h => AV.bool (r.testBit h)) = (List.range i).map (fun h => AV.bool (r.testBit h)) ++ [.bool (r.testBit i)] := by rw [List.range_succ]; simp
    generalize (List.range i).map (fun h => AV.bool (r.testBit h)) = es at *
    generalize r.testBit i = b at *
    generalize r >>> i &&& 1 = y at *
    generalize r >>> i = z at *
    repeat (first | apply Wp.seqA | apply Wp.skipS | apply Wp.blockS | ((first | apply Wp.regS | apply Wp.condV | apply Wp.reg | apply Wp.condW | apply fin_ret); simp -implicitDefEqProofs (maxSteps := 2000000) (disch := first | exact tt_rfl rfl | omega | (simp only [go_sem] <;> omega) | fail) only [go_sem, h, Int.ofNat_lt, hg, s1, s2, eb, hl, Int.toNat_natCast] <;> try with_reducible rfl) | apply Wp.block | apply Wp.exitS | apply Wp.retS | apply Wp.exit | apply Wp.ret | apply Wp.skip)
    apply round_next
    · simp -implicitDefEqProofs (maxSteps := 2000000) (disch := first | exact tt_rfl rfl | omega | (simp only [go_sem] <;> omega) | fail) only [go_sem, norm_eq, Ok.some]; with_reducible rfl
    refine ⟨h, ?_, trivial⟩
    rw [e3]
    simp
  · obtain rfl : i = d.hk := by omega
    have hl := hR d.hk
    have etk : ((List.range d.hk).map fun h => AV.bool (r.testBit h)).take d.hk = (List.range d.hk).map fun h => AV.bool (r.testBit h) := List.take_of_length_le (by omega)
    have hp' := hpl d.hk
    generalize (List.range d.hk).map (fun h => AV.bool (r.testBit h)) = es at *
    repeat (first | apply Wp.seqA | apply Wp.skipS | apply Wp.blockS | ((first | apply Wp.regS | apply Wp.condV | apply Wp.reg | apply Wp.condW | apply fin_ret); simp -implicitDefEqProofs (maxSteps := 2000000) (disch := first | exact tt_rfl rfl | omega | (simp only [go_sem] <;> omega) | fail) only [go_sem, Int.lt_irrefl, hl, etk, hp'] <;> try with_reducible rfl) | apply Wp.block | apply Wp.exitS | apply Wp.retS | apply Wp.exit | apply Wp.ret | apply Wp.skip)
theorem hook_ok (d : DesN) (hd : d.Ok) (p : Nat) (hp : p < d.hk) : lim F 63 [d.av, iv (p : Int)] = some (.own 1 ((hookR d p).map fun b => .bool b), []) := by
  have h24 := hd.h24
  have hr60 := hd.r60
  have p1 : 2 ^ d.hk ≤ 2 ^ 24 := Nat.pow_le_pow_right (by omega) (by omega)
  have hln : (natsV d.rows).length = d.rows.length := by simp
  unfold DesN.av
  change lim F _ [.agg [_, .list 1 (natsV d.rows)], _] = _
  have eR : (hookR d p).map (fun b => AV.bool b) = d.rows.map fun r => AV.bool (r.testBit p) := by unfold hookR; rw [List.map_map]; rfl
  rw [eR]
  refine lim_by (fn := a63) (k := 2) (res := [.tmp 4]) rfl rfl rfl (by simp -implicitDefEqProofs (maxSteps := 2000000) (disch := first | exact tt_rfl rfl | omega | (simp only [go_sem] <;> omega) | fail) only [go_sem]) ?_
  try delta mvA
  try delta opA
  try delta tA
  simp -implicitDefEqProofs (maxSteps := 2000000) (disch := first | exact tt_rfl rfl | omega | (simp only [go_sem] <;> omega) | fail) only [go_sem]
  repeat (first | apply Wp.seqA | apply Wp.skipS | apply Wp.blockS | ((first | apply Wp.regS | apply Wp.condV | apply Wp.reg | apply Wp.condW | apply fin_ret); simp -implicitDefEqProofs (maxSteps := 2000000) (disch := first | exact tt_rfl rfl | omega | (simp only [go_sem] <;> omega) | fail) only [go_sem, hln] <;> try with_reducible rfl) | apply Wp.block | apply Wp.exitS | apply Wp.retS | apply Wp.exit | apply Wp.ret | apply Wp.skip)
  apply Wp.loopF d.rows.length (fun i => ⟨[(1, iv (p : Int)), (4, .slice 256 0 i), (9, .list 1 (natsV d.rows)), (10, iv (d.rows.length : Int)), (11, iv (i : Int))], [(256, .arr 1 ((d.rows.take i).map fun r => .bool (r.testBit p)))], [], 10000000⟩) (fun _ => True)
  · simp -implicitDefEqProofs (maxSteps := 2000000) (disch := first | exact tt_rfl rfl | omega | (simp only [go_sem] <;> omega) | fail) only [go_sem, norm_eq, Ok.some]
    rfl
  · trivial
  intro i hi _
  by_cases h : i < d.rows.length
  · have hg := nats_at h
    have hlt := hd.lt _ (List.getElem_mem h)
    have hl : ((d.rows.take i).map fun r => AV.bool (r.testBit p)).length = i := by simp; omega
    have e3 : (d.rows.take (i + 1)).map (fun r => AV.bool (r.testBit p)) = (d.rows.take i).map (fun r => AV.bool (r.testBit p)) ++ [.bool ((d.rows.getD i 0).testBit p)] := by
      rw [List.take_succ_eq_append_getElem h, rows_get h, List.map_append]; rfl
    rw [← rows_get h] at hlt
    generalize d.rows.getD i 0 = r at *
    have s1 := w_shr r p (by omega)
    have sb : r >>> p < 9223372036854775808 := by rw [Nat.shiftRight_eq_div_pow]; have := Nat.div_le_self r (2 ^ p); omega
    have s2 := w_and1 (r >>> p) sb
    have eb := bit_eq r p
    generalize (d.rows.take i).map (fun r => AV.bool (r.testBit p)) = es at *
    generalize r.testBit p = b at *
    generalize r >>> p &&& 1 = y at *
    generalize r >>> p = z at *
    repeat (first | apply Wp.seqA | apply Wp.skipS | apply Wp.blockS | ((first | apply Wp.regS | apply Wp.condV | apply Wp.reg | apply Wp.condW | apply fin_ret); simp -implicitDefEqProofs (maxSteps := 2000000) (disch := first | exact tt_rfl rfl | omega | (simp only [go_sem] <;> omega) | fail) only [go_sem, h, Int.ofNat_lt, hg, hln, s1, s2, eb, hl, Int.toNat_natCast] <;> try with_reducible rfl) | apply Wp.block | apply Wp.exitS | apply Wp.retS | apply Wp.exit | apply Wp.ret | apply Wp.skip)
    apply round_next
    · simp -implicitDefEqProofs (maxSteps := 2000000) (disch := first | exact tt_rfl rfl | omega | (simp only [go_sem] <;> omega) | fail) only [go_sem, norm_eq, Ok.some]; with_reducible rfl
    refine ⟨h, ?_, trivial⟩
    rw [e3]
    simp
  · obtain rfl : i = d.rows.length := by omega
    have hl : (d.rows.map fun r => AV.bool (r.testBit p)).length = d.rows.length := by simp
    have etk : (d.rows.map fun r => AV.bool (r.testBit p)).take d.rows.length = d.rows.map fun r => AV.bool (r.testBit p) := List.take_of_length_le (by omega)
    have etk2 : (d.rows.take d.rows.length).map (fun r => AV.bool (r.testBit p)) = d.rows.map fun r => AV.bool (r.testBit p) := by rw [List.take_length]
    rw [etk2]
    generalize d.rows.map (fun r => AV.bool (r.testBit p)) = es at *
    repeat (first | apply Wp.seqA | apply Wp.skipS | apply Wp.blockS | ((first | apply Wp.regS | apply Wp.condV | apply Wp.reg | apply Wp.condW | apply fin_ret); simp -implicitDefEqProofs (maxSteps := 2000000) (disch := first | exact tt_rfl rfl | omega | (simp only [go_sem] <;> omega) | fail) only [go_sem, Int.lt_irrefl, hl, etk] <;> try with_reducible rfl) | apply Wp.block | apply Wp.exitS | apply Wp.retS | apply Wp.exit | apply Wp.ret | apply Wp.skip)
end Go.Abs
