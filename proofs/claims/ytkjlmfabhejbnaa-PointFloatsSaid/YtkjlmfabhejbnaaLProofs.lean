/-
  PointProofs: the windows of any design, or the error, are what the document says.
-/
import Derived.Test.YtkjlmfabhejbnaaR3
set_option linter.all false
namespace Go.Abs
set_option maxRecDepth 10000
set_option maxHeartbeats 4000000

theorem a_rows (n : DesN) : n.a.rows.map (fun n => iv n) = n.rows.map fun n : Nat => iv (n : Int) := by
  unfold DesN.a; rw [List.map_map]; rfl
theorem pointProofs_ok (d : DesA) (b : Int) : lim F 5 [d.av, iv b] = some (.bool true, []) := by
  have kn := known_ok
  have hL : lim F 14 [.list 2 [d.av]] = some (.bool (largeT [d]), []) := large_ok [d] (by simp)
  by_cases h0 : 70 < d.rows.length
  · rw [show largeT [d] = true by simp [largeT, h0]] at hL
    unfold DesA.av at *
    refine lim_by (fn := a5) (k := 2) (res := [.tmp 4]) rfl rfl rfl (by simp -implicitDefEqProofs (maxSteps := 2000000) (disch := first | exact tt_rfl rfl | omega | (simp only [go_sem] <;> omega) | fail) only [go_sem]) ?_
    simp -implicitDefEqProofs (maxSteps := 2000000) (disch := first | exact tt_rfl rfl | omega | (simp only [go_sem] <;> omega) | fail) only [go_sem]
    repeat (first | apply Wp.seqA | apply Wp.skipS | apply Wp.blockS | ((first | apply Wp.regS | apply Wp.condV | apply Wp.reg | apply Wp.condW | apply fin_ret); simp -implicitDefEqProofs (maxSteps := 2000000) (disch := first | exact tt_rfl rfl | omega | (simp only [go_sem] <;> omega) | fail) only [go_sem, hL, kn] <;> try with_reducible rfl) | apply Wp.block | apply Wp.exitS | apply Wp.retS | apply Wp.exit | apply Wp.ret | apply Wp.skip)
  rw [show largeT [d] = false by simp [largeT, h0]] at hL
  have ho := own_ok d (by omega)
  have hs := Same_ok d d (by omega)
  have hr := refCheck_ok d (by omega)
  have hIn := refIn_ok b 1 24
  rw [own_same] at hs
  by_cases hc : checkD d = 0
  · by_cases hb : 1 ≤ b ∧ b ≤ 24
    · obtain ⟨n, hn, rfl⟩ := checkD_zero hc
      obtain ⟨k, rfl⟩ : ∃ k : Nat, b = k := ⟨b.toNat, by omega⟩
      rw [hc] at hr
      rw [decide_eq_true hb] at hIn
      have hP := Proof_ok n hn k (by omega)
      have hR := refProof_ok n hn k (by omega)
      have hA := Alike_same ((weftF n).flatMap (winT n.hk k)) (by
        have h1 := wins_len n.hk k (weftF n)
        have h2 : (weftF n).length * n.hk ≤ 60000 * 24 := Nat.mul_le_mul (weft_len hn) hn.h24
        omega)
      change lim F _ [.list 4 (winsV n.hk k (weftF n)), .list 4 (winsV n.hk k (weftF n))] = _ at hA
      have hp2 := fl_plain ((weftF n).flatMap (winT n.hk k))
      change (winsV n.hk k (weftF n)).all AV.plain = true at hp2
      have hln : (winsV n.hk k (weftF n)).length ≤ 60000 * 24 := by
        have h1 := wins_len n.hk k (weftF n)
        have h2 : (weftF n).length * n.hk ≤ 60000 * 24 := Nat.mul_le_mul (weft_len hn) hn.h24
        unfold winsV
        rw [List.length_map]; omega
      generalize winsV n.hk k (weftF n) = w at *
      rw [DesN.a_av n] at hL hs hr ho
      rw [DesN.a_av n]
      rw [a_rows, show n.a.hk = (n.hk : Int) from rfl] at ho
      unfold DesN.av at *
      have hp := nat_plain n.rows
      generalize n.rows.map (fun n : Nat => iv (n : Int)) = es at *
      refine lim_by (fn := a5) (k := 2) (res := [.tmp 4]) rfl rfl rfl (by simp -implicitDefEqProofs (maxSteps := 2000000) (disch := first | exact tt_rfl rfl | omega | (simp only [go_sem] <;> omega) | fail) only [go_sem]) ?_
      simp -implicitDefEqProofs (maxSteps := 2000000) (disch := first | exact tt_rfl rfl | omega | (simp only [go_sem] <;> omega) | fail) only [go_sem]
      repeat (first | apply Wp.seqA | apply Wp.skipS | apply Wp.blockS | ((first | apply Wp.regS | apply Wp.condV | apply Wp.reg | apply Wp.condW | apply fin_ret); simp -implicitDefEqProofs (maxSteps := 2000000) (disch := first | exact tt_rfl rfl | omega | (simp only [go_sem] <;> omega) | fail) only [go_sem, hL, ho, hP, hs, hr, hIn, hR, hA, kn, hp, hp2, List.take_length] <;> try with_reducible rfl) | apply Wp.block | apply Wp.exitS | apply Wp.retS | apply Wp.exit | apply Wp.ret | apply Wp.skip)
    · have hP := Proof_bad d (by omega) b 3 (by omega) (by rw [if_neg (by simpa using hc), if_pos hb])
      rw [decide_eq_false hb] at hIn
      rw [hc] at hr
      unfold DesA.av at *
      refine lim_by (fn := a5) (k := 2) (res := [.tmp 4]) rfl rfl rfl (by simp -implicitDefEqProofs (maxSteps := 2000000) (disch := first | exact tt_rfl rfl | omega | (simp only [go_sem] <;> omega) | fail) only [go_sem]) ?_
      simp -implicitDefEqProofs (maxSteps := 2000000) (disch := first | exact tt_rfl rfl | omega | (simp only [go_sem] <;> omega) | fail) only [go_sem]
      repeat (first | apply Wp.seqA | apply Wp.skipS | apply Wp.blockS | ((first | apply Wp.regS | apply Wp.condV | apply Wp.reg | apply Wp.condW | apply fin_ret); simp -implicitDefEqProofs (maxSteps := 2000000) (disch := first | exact tt_rfl rfl | omega | (simp only [go_sem] <;> omega) | fail) only [go_sem, hL, ho, hP, hs, hr, hIn, kn, List.length_nil, Int.natCast_zero] <;> try with_reducible rfl) | apply Wp.block | apply Wp.exitS | apply Wp.retS | apply Wp.exit | apply Wp.ret | apply Wp.skip)
  · have hP := Proof_bad d (by omega) b (checkD d) hc (by rw [if_pos hc])
    unfold DesA.av at *
    generalize checkD d = c at *
    refine lim_by (fn := a5) (k := 2) (res := [.tmp 4]) rfl rfl rfl (by simp -implicitDefEqProofs (maxSteps := 2000000) (disch := first | exact tt_rfl rfl | omega | (simp only [go_sem] <;> omega) | fail) only [go_sem]) ?_
    simp -implicitDefEqProofs (maxSteps := 2000000) (disch := first | exact tt_rfl rfl | omega | (simp only [go_sem] <;> omega) | fail) only [go_sem]
    repeat (first | apply Wp.seqA | apply Wp.skipS | apply Wp.blockS | ((first | apply Wp.regS | apply Wp.condV | apply Wp.reg | apply Wp.condW | apply fin_ret); simp -implicitDefEqProofs (maxSteps := 2000000) (disch := first | exact tt_rfl rfl | omega | (simp only [go_sem] <;> omega) | fail) only [go_sem, hL, ho, hP, hs, hr, hc, kn, List.length_nil, Int.natCast_zero] <;> try with_reducible rfl) | apply Wp.block | apply Wp.exitS | apply Wp.retS | apply Wp.exit | apply Wp.ret | apply Wp.skip)
end Go.Abs
