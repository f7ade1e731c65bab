/-
 Chapter 1: Floats. No condition beyond those that each theorem names.
-/
import Derived.Test.YtkjlmfabhejbnaaP6
import Derived.Test.YtkjlmfabhejbnaaP5b
set_option linter.all false
namespace Go.Abs
set_option maxRecDepth 10000
set_option maxHeartbeats 4000000

theorem Floats_weft (d : DesN) (hd : d.Ok) (b : Int) (hb : 0 ≤ b ∧ b ≤ 1000) : lim F 18 [d.av, iv 1, iv b] = some (.tuple [.own 4 (((weftF d).filter fun f => decide (b < f.len)).map FloatT.av), iv 0], []) := by
 have h60 := hd.r60
 have hc := Check_ok d.a (by simp [DesN.a]; omega)
 rw [checkD_ok hd, DesN.a_av] at hc
 have hw := within_one 0 1000 b
 rw [decide_eq_true hb] at hw
 have hF := floats1_ok d
 have hg := weft_guess d hd
 have hk := weft_check d hd
 have hfl := weft_len hd
 have hfi : ∀ i (h : i < (weftF d).length), FIn d.rows.length d.hk (weftF d)[i] := fun i h => weft_in hd (List.getElem_mem h)
 unfold DesN.av at *
 generalize d.rows.map (fun n : Nat => iv (n : Int)) = rs at *
 generalize weftF d = FL at *
 refine lim_by (fn := a18) (k := 3) (res := [.cell 6 1 false, .tmp 7]) rfl rfl rfl (by simp -implicitDefEqProofs (maxSteps := 2000000) (disch := first | exact tt_rfl rfl | omega | (simp only [go_sem] <;> omega) | fail) only [go_sem]) ?_
 simp -implicitDefEqProofs (maxSteps := 2000000) (disch := first | exact tt_rfl rfl | omega | (simp only [go_sem] <;> omega) | fail) only [go_sem]
 repeat (first | apply Wp.seqA | apply Wp.skipS | apply Wp.blockS | ((first | apply Wp.regS | apply Wp.condV | apply Wp.reg | apply Wp.condW | apply fin_ret); simp -implicitDefEqProofs (maxSteps := 2000000) (disch := first | exact tt_rfl rfl | omega | (simp only [go_sem] <;> omega) | fail) only [go_sem, hc, hw, hF] <;> try with_reducible rfl) | apply Wp.block | apply Wp.exitS | apply Wp.retS | apply Wp.exit | apply Wp.ret | apply Wp.skip)
 refine Wp.rangeF (fun i fr => fr = ⟨[(5, .ptr 320 0 0), (6, .ptr 384 0 0)], [(320, .box [iv b]), (384, .box [.slice 306144 0 (filF FL b i).length]), (306144, .arr 4 (filF FL b i))], [], 10000000⟩) rfl rfl hg hk ?_ ?_ ?_
 ·simp -implicitDefEqProofs (maxSteps := 2000000) (disch := first | exact tt_rfl rfl | omega | (simp only [go_sem] <;> omega) | fail) only [go_sem, norm_eq, Ok.some]
  try rfl
 ·rintro j x fr hx rfl
  have hlt : j < FL.length := by
   rcases Nat.lt_or_ge j FL.length with h | h
   ·exact h
   ·rw [List.getElem?_eq_none (by simpa using h)] at hx; cases hx
  have ex : x = fV FL[j] := by
   rw [List.getElem?_map, List.getElem?_eq_getElem hlt] at hx
   cases hx; rfl
  subst ex
  refine ⟨_, rfl, ?_⟩
  have hs := filF_succ (b := b) hlt
  have hl := filF_len FL b j
  have hfn := hfi j hlt
  unfold FloatT.av at hs
  generalize FL[j] = f at *
  generalize hes : filF FL b j = es at *
  generalize filF FL b (j + 1) = es' at *
  unfold FloatT.av
  by_cases hbf : b < f.len
  ·rw [if_pos hbf] at hs
   repeat (first | apply Wp.seqA | apply Wp.skipS | apply Wp.blockS | ((first | apply Wp.regS | apply Wp.condV | apply Wp.reg | apply Wp.condW | apply fin_ret); simp -implicitDefEqProofs (maxSteps := 2000000) (disch := first | exact tt_rfl rfl | omega | (simp only [go_sem] <;> omega) | fail) only [go_sem, hbf] <;> try with_reducible rfl) | apply Wp.block | apply Wp.exitS | apply Wp.retS | apply Wp.exit | apply Wp.ret | apply Wp.skip)
   apply block_norm
   apply round_next
   ·simp -implicitDefEqProofs (maxSteps := 2000000) (disch := first | exact tt_rfl rfl | omega | (simp only [go_sem] <;> omega) | fail) only [go_sem, norm_eq, Ok.some]; with_reducible rfl
   rw [hs]
   simp
  ·rw [if_neg hbf, List.append_nil] at hs
   repeat (first | apply Wp.seqA | apply Wp.skipS | apply Wp.blockS | ((first | apply Wp.regS | apply Wp.condV | apply Wp.reg | apply Wp.condW | apply fin_ret); simp -implicitDefEqProofs (maxSteps := 2000000) (disch := first | exact tt_rfl rfl | omega | (simp only [go_sem] <;> omega) | fail) only [go_sem, hbf] <;> try with_reducible rfl) | apply Wp.block | apply Wp.exitS | apply Wp.retS | apply Wp.exit | apply Wp.ret | apply Wp.skip)
   apply block_norm
   apply round_next
   ·simp -implicitDefEqProofs (maxSteps := 2000000) (disch := first | exact tt_rfl rfl | omega | (simp only [go_sem] <;> omega) | fail) only [go_sem, norm_eq, Ok.some]; with_reducible rfl
   rw [hs]
 ·rintro fr rfl
  have e : filF FL b (FL.map fV).length = (FL.filter fun f => decide (b < f.len)).map FloatT.av := by unfold filF; rw [List.length_map, List.take_length]
  rw [e]
  have hp := fl_plain (FL.filter fun f => decide (b < f.len))
  generalize (FL.filter fun f => decide (b < f.len)).map FloatT.av = es at *
  repeat (first | apply Wp.seqA | apply Wp.skipS | apply Wp.blockS | ((first | apply Wp.regS | apply Wp.condV | apply Wp.reg | apply Wp.condW | apply fin_ret); simp -implicitDefEqProofs (maxSteps := 2000000) (disch := first | exact tt_rfl rfl | omega | (simp only [go_sem] <;> omega) | fail) only [go_sem, List.take_length, hp] <;> try with_reducible rfl) | apply Wp.block | apply Wp.exitS | apply Wp.retS | apply Wp.exit | apply Wp.ret | apply Wp.skip)

theorem Floats_warp (d : DesN) (hd : d.Ok) (b : Int) (hb : 0 ≤ b ∧ b ≤ 1000) : lim F 18 [d.av, iv 2, iv b] = some (.tuple [.own 4 (((warpF d).filter fun f => decide (b < f.len)).map FloatT.av), iv 0], []) := by
 have h60 := hd.r60
 have hc := Check_ok d.a (by simp [DesN.a]; omega)
 rw [checkD_ok hd, DesN.a_av] at hc
 have hw := within_one 0 1000 b
 rw [decide_eq_true hb] at hw
 have hF := floats2_ok d
 have hg := warp_guess d hd
 have hk := warp_check d hd
 have hfl := warp_len hd
 have hfi : ∀ i (h : i < (warpF d).length), FIn d.rows.length d.hk (warpF d)[i] := fun i h => warp_in hd (List.getElem_mem h)
 unfold DesN.av at *
 generalize d.rows.map (fun n : Nat => iv (n : Int)) = rs at *
 generalize warpF d = FL at *
 refine lim_by (fn := a18) (k := 3) (res := [.cell 6 1 false, .tmp 7]) rfl rfl rfl (by simp -implicitDefEqProofs (maxSteps := 2000000) (disch := first | exact tt_rfl rfl | omega | (simp only [go_sem] <;> omega) | fail) only [go_sem]) ?_
 simp -implicitDefEqProofs (maxSteps := 2000000) (disch := first | exact tt_rfl rfl | omega | (simp only [go_sem] <;> omega) | fail) only [go_sem]
 repeat (first | apply Wp.seqA | apply Wp.skipS | apply Wp.blockS | ((first | apply Wp.regS | apply Wp.condV | apply Wp.reg | apply Wp.condW | apply fin_ret); simp -implicitDefEqProofs (maxSteps := 2000000) (disch := first | exact tt_rfl rfl | omega | (simp only [go_sem] <;> omega) | fail) only [go_sem, hc, hw, hF] <;> try with_reducible rfl) | apply Wp.block | apply Wp.exitS | apply Wp.retS | apply Wp.exit | apply Wp.ret | apply Wp.skip)
 refine Wp.rangeF (fun i fr => fr = ⟨[(5, .ptr 320 0 0), (6, .ptr 384 0 0)], [(320, .box [iv b]), (384, .box [.slice 306144 0 (filF FL b i).length]), (306144, .arr 4 (filF FL b i))], [], 10000000⟩) rfl rfl hg hk ?_ ?_ ?_
 ·simp -implicitDefEqProofs (maxSteps := 2000000) (disch := first | exact tt_rfl rfl | omega | (simp only [go_sem] <;> omega) | fail) only [go_sem, norm_eq, Ok.some]
  try rfl
 ·rintro j x fr hx rfl
  have hlt : j < FL.length := by
   rcases Nat.lt_or_ge j FL.length with h | h
   ·exact h
   ·rw [List.getElem?_eq_none (by simpa using h)] at hx; cases hx
  have ex : x = fV FL[j] := by
   rw [List.getElem?_map, List.getElem?_eq_getElem hlt] at hx
   cases hx; rfl
  subst ex
  refine ⟨_, rfl, ?_⟩
  have hs := filF_succ (b := b) hlt
  have hl := filF_len FL b j
  have hfn := hfi j hlt
  unfold FloatT.av at hs
  generalize FL[j] = f at *
  generalize hes : filF FL b j = es at *
  generalize filF FL b (j + 1) = es' at *
  unfold FloatT.av
  by_cases hbf : b < f.len
  ·rw [if_pos hbf] at hs
   repeat (first | apply Wp.seqA | apply Wp.skipS | apply Wp.blockS | ((first | apply Wp.regS | apply Wp.condV | apply Wp.reg | apply Wp.condW | apply fin_ret); simp -implicitDefEqProofs (maxSteps := 2000000) (disch := first | exact tt_rfl rfl | omega | (simp only [go_sem] <;> omega) | fail) only [go_sem, hbf] <;> try with_reducible rfl) | apply Wp.block | apply Wp.exitS | apply Wp.retS | apply Wp.exit | apply Wp.ret | apply Wp.skip)
   apply block_norm
   apply round_next
   ·simp -implicitDefEqProofs (maxSteps := 2000000) (disch := first | exact tt_rfl rfl | omega | (simp only [go_sem] <;> omega) | fail) only [go_sem, norm_eq, Ok.some]; with_reducible rfl
   rw [hs]
   simp
  ·rw [if_neg hbf, List.append_nil] at hs
   repeat (first | apply Wp.seqA | apply Wp.skipS | apply Wp.blockS | ((first | apply Wp.regS | apply Wp.condV | apply Wp.reg | apply Wp.condW | apply fin_ret); simp -implicitDefEqProofs (maxSteps := 2000000) (disch := first | exact tt_rfl rfl | omega | (simp only [go_sem] <;> omega) | fail) only [go_sem, hbf] <;> try with_reducible rfl) | apply Wp.block | apply Wp.exitS | apply Wp.retS | apply Wp.exit | apply Wp.ret | apply Wp.skip)
   apply block_norm
   apply round_next
   ·simp -implicitDefEqProofs (maxSteps := 2000000) (disch := first | exact tt_rfl rfl | omega | (simp only [go_sem] <;> omega) | fail) only [go_sem, norm_eq, Ok.some]; with_reducible rfl
   rw [hs]
 ·rintro fr rfl
  have e : filF FL b (FL.map fV).length = (FL.filter fun f => decide (b < f.len)).map FloatT.av := by unfold filF; rw [List.length_map, List.take_length]
  rw [e]
  have hp := fl_plain (FL.filter fun f => decide (b < f.len))
  generalize (FL.filter fun f => decide (b < f.len)).map FloatT.av = es at *
  repeat (first | apply Wp.seqA | apply Wp.skipS | apply Wp.blockS | ((first | apply Wp.regS | apply Wp.condV | apply Wp.reg | apply Wp.condW | apply fin_ret); simp -implicitDefEqProofs (maxSteps := 2000000) (disch := first | exact tt_rfl rfl | omega | (simp only [go_sem] <;> omega) | fail) only [go_sem, List.take_length, hp] <;> try with_reducible rfl) | apply Wp.block | apply Wp.exitS | apply Wp.retS | apply Wp.exit | apply Wp.ret | apply Wp.skip)

theorem Floats_bad (d : DesA) (hl : d.rows.length ≤ 1000000) (along b : Int) (e : Int) (he : e ≠ 0) (h : e = if checkD d ≠ 0 then checkD d else if along ≠ 1 ∧ along ≠ 2 then 2 else if ¬ (0 ≤ b ∧ b ≤ 1000) then 3 else 0) : lim F 18 [d.av, iv along, iv b] = some (.tuple [.own 4 [], iv e], []) := by
 have hc := Check_ok d hl
 have hw := within_one 0 1000 b
 unfold DesA.av at *
 by_cases h1 : checkD d = 0
 ·rw [h1] at hc
  rw [if_neg (by simpa using h1)] at h
  by_cases h2 : along ≠ 1 ∧ along ≠ 2
  ·rw [if_pos h2] at h
   refine lim_by (fn := a18) (k := 3) (res := [.cell 6 1 false, .tmp 7]) rfl rfl rfl (by simp -implicitDefEqProofs (maxSteps := 2000000) (disch := first | exact tt_rfl rfl | omega | (simp only [go_sem] <;> omega) | fail) only [go_sem]) ?_
   simp -implicitDefEqProofs (maxSteps := 2000000) (disch := first | exact tt_rfl rfl | omega | (simp only [go_sem] <;> omega) | fail) only [go_sem]
   repeat (first | apply Wp.seqA | apply Wp.skipS | apply Wp.blockS | ((first | apply Wp.regS | apply Wp.condV | apply Wp.reg | apply Wp.condW | apply fin_ret); simp -implicitDefEqProofs (maxSteps := 2000000) (disch := first | exact tt_rfl rfl | omega | (simp only [go_sem] <;> omega) | fail) only [go_sem, hc, h2.1, h2.2] <;> try with_reducible rfl) | apply Wp.block | apply Wp.exitS | apply Wp.retS | apply Wp.exit | apply Wp.ret | apply Wp.skip)
   rw [h]
  ·rw [if_neg h2] at h
   have h3 : ¬ (0 ≤ b ∧ b ≤ 1000) := by
    intro h3; rw [if_neg (by simpa using h3)] at h; exact he h
   rw [if_pos h3] at h
   rw [decide_eq_false h3] at hw
   have ha : along = 1 ∨ along = 2 := by omega
   rcases ha with rfl | rfl
   ·refine lim_by (fn := a18) (k := 3) (res := [.cell 6 1 false, .tmp 7]) rfl rfl rfl (by simp -implicitDefEqProofs (maxSteps := 2000000) (disch := first | exact tt_rfl rfl | omega | (simp only [go_sem] <;> omega) | fail) only [go_sem]) ?_
    simp -implicitDefEqProofs (maxSteps := 2000000) (disch := first | exact tt_rfl rfl | omega | (simp only [go_sem] <;> omega) | fail) only [go_sem]
    repeat (first | apply Wp.seqA | apply Wp.skipS | apply Wp.blockS | ((first | apply Wp.regS | apply Wp.condV | apply Wp.reg | apply Wp.condW | apply fin_ret); simp -implicitDefEqProofs (maxSteps := 2000000) (disch := first | exact tt_rfl rfl | omega | (simp only [go_sem] <;> omega) | fail) only [go_sem, hc, hw] <;> try with_reducible rfl) | apply Wp.block | apply Wp.exitS | apply Wp.retS | apply Wp.exit | apply Wp.ret | apply Wp.skip)
    rw [h]
   ·refine lim_by (fn := a18) (k := 3) (res := [.cell 6 1 false, .tmp 7]) rfl rfl rfl (by simp -implicitDefEqProofs (maxSteps := 2000000) (disch := first | exact tt_rfl rfl | omega | (simp only [go_sem] <;> omega) | fail) only [go_sem]) ?_
    simp -implicitDefEqProofs (maxSteps := 2000000) (disch := first | exact tt_rfl rfl | omega | (simp only [go_sem] <;> omega) | fail) only [go_sem]
    repeat (first | apply Wp.seqA | apply Wp.skipS | apply Wp.blockS | ((first | apply Wp.regS | apply Wp.condV | apply Wp.reg | apply Wp.condW | apply fin_ret); simp -implicitDefEqProofs (maxSteps := 2000000) (disch := first | exact tt_rfl rfl | omega | (simp only [go_sem] <;> omega) | fail) only [go_sem, hc, hw] <;> try with_reducible rfl) | apply Wp.block | apply Wp.exitS | apply Wp.retS | apply Wp.exit | apply Wp.ret | apply Wp.skip)
    rw [h]
 ·rw [if_pos h1] at h
  rw [h]
  generalize checkD d = c at *
  refine lim_by (fn := a18) (k := 3) (res := [.cell 6 1 false, .tmp 7]) rfl rfl rfl (by simp -implicitDefEqProofs (maxSteps := 2000000) (disch := first | exact tt_rfl rfl | omega | (simp only [go_sem] <;> omega) | fail) only [go_sem]) ?_
  simp -implicitDefEqProofs (maxSteps := 2000000) (disch := first | exact tt_rfl rfl | omega | (simp only [go_sem] <;> omega) | fail) only [go_sem]
  repeat (first | apply Wp.seqA | apply Wp.skipS | apply Wp.blockS | ((first | apply Wp.regS | apply Wp.condV | apply Wp.reg | apply Wp.condW | apply fin_ret); simp -implicitDefEqProofs (maxSteps := 2000000) (disch := first | exact tt_rfl rfl | omega | (simp only [go_sem] <;> omega) | fail) only [go_sem, hc, h1] <;> try with_reducible rfl) | apply Wp.block | apply Wp.exitS | apply Wp.retS | apply Wp.exit | apply Wp.ret | apply Wp.skip)
end Go.Abs
