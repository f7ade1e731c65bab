/-
  PointFloats: the error of any design, its floats, and the longest ones, are what the document says.
-/
import Derived.Test.YtkjlmfabhejbnaaLProofs
set_option linter.all false
namespace Go.Abs
set_option maxRecDepth 10000
set_option maxHeartbeats 4000000

theorem Longest_ok (d : DesN) (hd : d.Ok) : lim F 19 [d.av] = some (.tuple [.agg [iv (mxF false (weftF d)), iv (mxF true (weftF d)), iv (mxF true (warpF d)), iv (mxF false (warpF d))], iv 0], []) := by
  have h60 := hd.r60
  have hc := Check_ok d.a (by simp [DesN.a]; omega)
  rw [checkD_ok hd, DesN.a_av] at hc
  have e1 := floats1_ok d
  have e2 := floats2_ok d
  have g1 := weft_guess d hd
  have g2 := warp_guess d hd
  have k1 := weft_check d hd
  have k2 := warp_check d hd
  unfold DesN.av at *
  exact longest_of _ _ _ _ _ hc e1 e2 g1 g2 k1 k2
theorem Longest_bad (d : DesA) (hl : d.rows.length ≤ 1000000) (hd : checkD d ≠ 0) : lim F 19 [d.av] = some (.tuple [.agg [iv 0, iv 0, iv 0, iv 0], iv (checkD d)], []) := by
  have hc := Check_ok d hl
  have hN : (Value.pointer none).oneCell' = true := rfl
  unfold DesA.av at *
  generalize checkD d = c at *
  refine lim_by (fn := a19) (k := 1) (res := [.cell 2 4 true, .tmp 3]) rfl rfl rfl (by simp -implicitDefEqProofs (maxSteps := 2000000) (disch := first | exact tt_rfl rfl | omega | (simp only [go_sem] <;> omega) | fail) only [go_sem]) ?_
  simp -implicitDefEqProofs (maxSteps := 2000000) (disch := first | exact tt_rfl rfl | omega | (simp only [go_sem] <;> omega) | fail) only [go_sem]
  repeat (first | apply Wp.seqA | apply Wp.skipS | apply Wp.blockS | ((first | apply Wp.regS | apply Wp.condV | apply Wp.reg | apply Wp.condW | apply fin_ret); simp -implicitDefEqProofs (maxSteps := 2000000) (disch := first | exact tt_rfl rfl | omega | (simp only [go_sem] <;> omega) | fail) only [go_sem, hc, hd] <;> try with_reducible rfl) | apply Wp.block | apply Wp.exitS | apply Wp.retS | apply Wp.exit | apply Wp.ret | apply Wp.skip)
def floatsE (d : DesA) (along b : Int) : Int := if checkD d ≠ 0 then checkD d else if along ≠ 1 ∧ along ≠ 2 then 2 else if ¬ (0 ≤ b ∧ b ≤ 1000) then 3 else 0

theorem floats_main (n : DesN) (hn : n.Ok) (along b : Int) (ha : along = 1 ∨ along = 2) (hb : 0 ≤ b ∧ b ≤ 1000) : lim F 3 [n.av, iv along, iv b] = some (.bool true, []) := by
  have kn := known_ok
  have h60 := hn.r60
  have hlr : n.a.rows.length = n.rows.length := by simp [DesN.a]
  have hL : lim F 14 [.list 2 [n.a.av]] = some (.bool (largeT [n.a]), []) := large_ok [n.a] (by simp)
  rw [show largeT [n.a] = false by simp [largeT, hlr]; omega] at hL
  have ho := own_ok n.a (by omega)
  have hs := Same_ok n.a n.a (by omega)
  have hr := refCheck_ok n.a (by omega)
  have hck := Check_ok n.a (by omega)
  have hIn := refIn_ok b 0 1000
  rw [own_same] at hs
  rw [checkD_ok hn] at hr hck
  rw [decide_eq_true hb] at hIn
  have hlo := Longest_ok n hn
  have l1 := refLongest_weft n hn false
  have l2 := refLongest_weft n hn true
  have l3 := refLongest_warp n hn true
  have l4 := refLongest_warp n hn false
  rw [DesN.a_av n] at hL hs hr ho hck
  rw [a_rows, show n.a.hk = (n.hk : Int) from rfl] at ho
  rcases ha with rfl | rfl
  · have hF := Floats_weft n hn b hb
    have hR := refFloats_weft n hn b
    have hle : ((weftF n).filter fun f => decide (b < f.len)).length ≤ 60000 := Nat.le_trans (List.length_filter_le _ _) (weft_len hn)
    have hA := Alike_same ((weftF n).filter fun f => decide (b < f.len)) (by omega)
    have hp2 := fl_plain ((weftF n).filter fun f => decide (b < f.len))
    have hl2 : (((weftF n).filter fun f => decide (b < f.len)).map FloatT.av).length = ((weftF n).filter fun f => decide (b < f.len)).length := by simp
    generalize (((weftF n).filter fun f => decide (b < f.len)).map FloatT.av) = w at *
    generalize mxF false (weftF n) = m1 at *
    generalize mxF true (weftF n) = m2 at *
    generalize mxF true (warpF n) = m3 at *
    generalize mxF false (warpF n) = m4 at *
    unfold DesN.av at *
    have hp := nat_plain n.rows
    generalize n.rows.map (fun n : Nat => iv (n : Int)) = es at *
    refine lim_by (fn := a3) (k := 3) (res := [.tmp 6]) rfl rfl rfl (by simp -implicitDefEqProofs (maxSteps := 2000000) (disch := first | exact tt_rfl rfl | omega | (simp only [go_sem] <;> omega) | fail) only [go_sem]) ?_
    simp -implicitDefEqProofs (maxSteps := 2000000) (disch := first | exact tt_rfl rfl | omega | (simp only [go_sem] <;> omega) | fail) only [go_sem]
    repeat (first | apply Wp.seqA | apply Wp.skipS | apply Wp.blockS | ((first | apply Wp.regS | apply Wp.condV | apply Wp.reg | apply Wp.condW | apply fin_ret); simp -implicitDefEqProofs (maxSteps := 2000000) (disch := first | exact tt_rfl rfl | omega | (simp only [go_sem] <;> omega) | fail) only [go_sem, hL, ho, hF, hs, hr, hck, hIn, hR, hA, hlo, l1, l2, l3, l4, kn, hp, hp2, List.take_length] <;> try with_reducible rfl) | apply Wp.block | apply Wp.exitS | apply Wp.retS | apply Wp.exit | apply Wp.ret | apply Wp.skip)
  · have hF := Floats_warp n hn b hb
    have hR := refFloats_warp n hn b
    have hle : ((warpF n).filter fun f => decide (b < f.len)).length ≤ 60000 := Nat.le_trans (List.length_filter_le _ _) (warp_len hn)
    have hA := Alike_same ((warpF n).filter fun f => decide (b < f.len)) (by omega)
    have hp2 := fl_plain ((warpF n).filter fun f => decide (b < f.len))
    have hl2 : (((warpF n).filter fun f => decide (b < f.len)).map FloatT.av).length = ((warpF n).filter fun f => decide (b < f.len)).length := by simp
    generalize (((warpF n).filter fun f => decide (b < f.len)).map FloatT.av) = w at *
    generalize mxF false (weftF n) = m1 at *
    generalize mxF true (weftF n) = m2 at *
    generalize mxF true (warpF n) = m3 at *
    generalize mxF false (warpF n) = m4 at *
    unfold DesN.av at *
    have hp := nat_plain n.rows
    generalize n.rows.map (fun n : Nat => iv (n : Int)) = es at *
    refine lim_by (fn := a3) (k := 3) (res := [.tmp 6]) rfl rfl rfl (by simp -implicitDefEqProofs (maxSteps := 2000000) (disch := first | exact tt_rfl rfl | omega | (simp only [go_sem] <;> omega) | fail) only [go_sem]) ?_
    simp -implicitDefEqProofs (maxSteps := 2000000) (disch := first | exact tt_rfl rfl | omega | (simp only [go_sem] <;> omega) | fail) only [go_sem]
    repeat (first | apply Wp.seqA | apply Wp.skipS | apply Wp.blockS | ((first | apply Wp.regS | apply Wp.condV | apply Wp.reg | apply Wp.condW | apply fin_ret); simp -implicitDefEqProofs (maxSteps := 2000000) (disch := first | exact tt_rfl rfl | omega | (simp only [go_sem] <;> omega) | fail) only [go_sem, hL, ho, hF, hs, hr, hck, hIn, hR, hA, hlo, l1, l2, l3, l4, kn, hp, hp2, List.take_length] <;> try with_reducible rfl) | apply Wp.block | apply Wp.exitS | apply Wp.retS | apply Wp.exit | apply Wp.ret | apply Wp.skip)
theorem pointFloats_ok (d : DesA) (along b : Int) : lim F 3 [d.av, iv along, iv b] = some (.bool true, []) := by
  have kn := known_ok
  have hL : lim F 14 [.list 2 [d.av]] = some (.bool (largeT [d]), []) := large_ok [d] (by simp)
  by_cases h0 : 70 < d.rows.length
  · rw [show largeT [d] = true by simp [largeT, h0]] at hL
    unfold DesA.av at *
    refine lim_by (fn := a3) (k := 3) (res := [.tmp 6]) rfl rfl rfl (by simp -implicitDefEqProofs (maxSteps := 2000000) (disch := first | exact tt_rfl rfl | omega | (simp only [go_sem] <;> omega) | fail) only [go_sem]) ?_
    simp -implicitDefEqProofs (maxSteps := 2000000) (disch := first | exact tt_rfl rfl | omega | (simp only [go_sem] <;> omega) | fail) only [go_sem]
    repeat (first | apply Wp.seqA | apply Wp.skipS | apply Wp.blockS | ((first | apply Wp.regS | apply Wp.condV | apply Wp.reg | apply Wp.condW | apply fin_ret); simp -implicitDefEqProofs (maxSteps := 2000000) (disch := first | exact tt_rfl rfl | omega | (simp only [go_sem] <;> omega) | fail) only [go_sem, hL, kn] <;> try with_reducible rfl) | apply Wp.block | apply Wp.exitS | apply Wp.retS | apply Wp.exit | apply Wp.ret | apply Wp.skip)
  rw [show largeT [d] = false by simp [largeT, h0]] at hL
  have ho := own_ok d (by omega)
  have hs := Same_ok d d (by omega)
  have hr := refCheck_ok d (by omega)
  have hck := Check_ok d (by omega)
  have hIn := refIn_ok b 0 1000
  rw [own_same] at hs
  by_cases hc : checkD d = 0
  · obtain ⟨n, hn, rfl⟩ := checkD_zero hc
    by_cases ha : along = 1 ∨ along = 2
    · by_cases hb : 0 ≤ b ∧ b ≤ 1000
      · rw [DesN.a_av n]
        exact floats_main n hn along b ha hb
      · have hF := Floats_bad n.a (by omega) along b 3 (by omega) (by rw [if_neg (by simpa using hc), if_neg (by omega), if_pos hb])
        have hlo := Longest_ok n hn
        have l1 := refLongest_weft n hn false
        have l2 := refLongest_weft n hn true
        have l3 := refLongest_warp n hn true
        have l4 := refLongest_warp n hn false
        rw [decide_eq_false hb] at hIn
        rw [hc] at hr hck
        rw [DesN.a_av n] at hL hs hr ho hck hF
        rw [a_rows, show n.a.hk = (n.hk : Int) from rfl] at ho
        rw [DesN.a_av n]
        generalize mxF false (weftF n) = m1 at *
        generalize mxF true (weftF n) = m2 at *
        generalize mxF true (warpF n) = m3 at *
        generalize mxF false (warpF n) = m4 at *
        unfold DesN.av at *
        have hp := nat_plain n.rows
        generalize n.rows.map (fun n : Nat => iv (n : Int)) = es at *
        rcases ha with rfl | rfl
        · refine lim_by (fn := a3) (k := 3) (res := [.tmp 6]) rfl rfl rfl (by simp -implicitDefEqProofs (maxSteps := 2000000) (disch := first | exact tt_rfl rfl | omega | (simp only [go_sem] <;> omega) | fail) only [go_sem]) ?_
          simp -implicitDefEqProofs (maxSteps := 2000000) (disch := first | exact tt_rfl rfl | omega | (simp only [go_sem] <;> omega) | fail) only [go_sem]
          repeat (first | apply Wp.seqA | apply Wp.skipS | apply Wp.blockS | ((first | apply Wp.regS | apply Wp.condV | apply Wp.reg | apply Wp.condW | apply fin_ret); simp -implicitDefEqProofs (maxSteps := 2000000) (disch := first | exact tt_rfl rfl | omega | (simp only [go_sem] <;> omega) | fail) only [go_sem, hL, ho, hF, hs, hr, hck, hIn, hlo, l1, l2, l3, l4, kn, hp, List.length_nil, Int.natCast_zero, List.take_length] <;> try with_reducible rfl) | apply Wp.block | apply Wp.exitS | apply Wp.retS | apply Wp.exit | apply Wp.ret | apply Wp.skip)
        · refine lim_by (fn := a3) (k := 3) (res := [.tmp 6]) rfl rfl rfl (by simp -implicitDefEqProofs (maxSteps := 2000000) (disch := first | exact tt_rfl rfl | omega | (simp only [go_sem] <;> omega) | fail) only [go_sem]) ?_
          simp -implicitDefEqProofs (maxSteps := 2000000) (disch := first | exact tt_rfl rfl | omega | (simp only [go_sem] <;> omega) | fail) only [go_sem]
          repeat (first | apply Wp.seqA | apply Wp.skipS | apply Wp.blockS | ((first | apply Wp.regS | apply Wp.condV | apply Wp.reg | apply Wp.condW | apply fin_ret); simp -implicitDefEqProofs (maxSteps := 2000000) (disch := first | exact tt_rfl rfl | omega | (simp only [go_sem] <;> omega) | fail) only [go_sem, hL, ho, hF, hs, hr, hck, hIn, hlo, l1, l2, l3, l4, kn, hp, List.length_nil, Int.natCast_zero, List.take_length] <;> try with_reducible rfl) | apply Wp.block | apply Wp.exitS | apply Wp.retS | apply Wp.exit | apply Wp.ret | apply Wp.skip)
    · have hF := Floats_bad n.a (by omega) along b 2 (by omega) (by rw [if_neg (by simpa using hc), if_pos (by omega)])
      have hlo := Longest_ok n hn
      have l1 := refLongest_weft n hn false
      have l2 := refLongest_weft n hn true
      have l3 := refLongest_warp n hn true
      have l4 := refLongest_warp n hn false
      rw [hc] at hr hck
      rw [DesN.a_av n] at hL hs hr ho hck hF
      rw [a_rows, show n.a.hk = (n.hk : Int) from rfl] at ho
      rw [DesN.a_av n]
      generalize mxF false (weftF n) = m1 at *
      generalize mxF true (weftF n) = m2 at *
      generalize mxF true (warpF n) = m3 at *
      generalize mxF false (warpF n) = m4 at *
      unfold DesN.av at *
      have hp := nat_plain n.rows
      generalize n.rows.map (fun n : Nat => iv (n : Int)) = es at *
      refine lim_by (fn := a3) (k := 3) (res := [.tmp 6]) rfl rfl rfl (by simp -implicitDefEqProofs (maxSteps := 2000000) (disch := first | exact tt_rfl rfl | omega | (simp only [go_sem] <;> omega) | fail) only [go_sem]) ?_
      simp -implicitDefEqProofs (maxSteps := 2000000) (disch := first | exact tt_rfl rfl | omega | (simp only [go_sem] <;> omega) | fail) only [go_sem]
      repeat (first | apply Wp.seqA | apply Wp.skipS | apply Wp.blockS | ((first | apply Wp.regS | apply Wp.condV | apply Wp.reg | apply Wp.condW | apply fin_ret); simp -implicitDefEqProofs (maxSteps := 2000000) (disch := first | exact tt_rfl rfl | omega | (simp only [go_sem] <;> omega) | fail) only [go_sem, hL, ho, hF, hs, hr, hck, hlo, l1, l2, l3, l4, kn, hp, show along ≠ 1 by omega, show along ≠ 2 by omega, List.length_nil, Int.natCast_zero, List.take_length] <;> try with_reducible rfl) | apply Wp.block | apply Wp.exitS | apply Wp.retS | apply Wp.exit | apply Wp.ret | apply Wp.skip)
  · have hF := Floats_bad d (by omega) along b (checkD d) hc (by rw [if_pos hc])
    have hlo := Longest_bad d (by omega) hc
    unfold DesA.av at *
    generalize checkD d = c at *
    refine lim_by (fn := a3) (k := 3) (res := [.tmp 6]) rfl rfl rfl (by simp -implicitDefEqProofs (maxSteps := 2000000) (disch := first | exact tt_rfl rfl | omega | (simp only [go_sem] <;> omega) | fail) only [go_sem]) ?_
    simp -implicitDefEqProofs (maxSteps := 2000000) (disch := first | exact tt_rfl rfl | omega | (simp only [go_sem] <;> omega) | fail) only [go_sem]
    repeat (first | apply Wp.seqA | apply Wp.skipS | apply Wp.blockS | ((first | apply Wp.regS | apply Wp.condV | apply Wp.reg | apply Wp.condW | apply fin_ret); simp -implicitDefEqProofs (maxSteps := 2000000) (disch := first | exact tt_rfl rfl | omega | (simp only [go_sem] <;> omega) | fail) only [go_sem, hL, ho, hF, hlo, hs, hr, hck, hc, kn, List.length_nil, Int.natCast_zero] <;> try with_reducible rfl) | apply Wp.block | apply Wp.exitS | apply Wp.retS | apply Wp.exit | apply Wp.ret | apply Wp.skip)
end Go.Abs
