/-
  PointMoves: the mirror, the flip, the back and any shift are what the document says.
-/
import Derived.Test.YtkjlmfabhejbnaaM6
import Derived.Test.YtkjlmfabhejbnaaKnown
set_option linter.all false
namespace Go.Abs
set_option maxRecDepth 10000
set_option maxHeartbeats 4000000

theorem ma_rows (n : DesN) : n.a.rows.map (fun n => iv n) = n.rows.map fun n : Nat => iv (n : Int) := by
  unfold DesN.a; rw [List.map_map]; rfl
theorem rowsV (l : List (List Bool)) : (l.map rowOf).map (fun n : Nat => iv (n : Int)) = l.map fun l => iv ((rowOf l : Nat) : Int) := by
  rw [List.map_map]; rfl
theorem gets_nat (hk : Nat) (l : List Nat) (hl : l.length ≤ 1000000) : lim F 48 [.agg [iv (hk : Int), .list 1 (l.map fun n : Nat => iv (n : Int))], iv 0, .agg [iv (hk : Int), .list 1 (l.map fun n : Nat => iv (n : Int))], iv 0] = some (.bool true, []) := by
  have h := gets_same hk (l.map fun n : Nat => (n : Int)) (by simpa using hl)
  rw [List.map_map] at h
  exact h
theorem pointMoves_ok (d : DesA) (a b : Int) : lim F 10 [d.av, iv a, iv b] = some (.bool true, []) := by
  have kn := known_ok
  have hL : lim F 14 [.list 2 [d.av]] = some (.bool (largeT [d]), []) := large_ok [d] (by simp)
  by_cases h0 : 70 < d.rows.length
  · rw [show largeT [d] = true by simp [largeT, h0]] at hL
    unfold DesA.av at *
    refine lim_by (fn := a10) (k := 3) (res := [.tmp 6]) rfl rfl rfl (by simp -implicitDefEqProofs (maxSteps := 2000000) (disch := first | exact tt_rfl rfl | omega | (simp only [go_sem] <;> omega) | fail) only [go_sem]) ?_
    simp -implicitDefEqProofs (maxSteps := 2000000) (disch := first | exact tt_rfl rfl | omega | (simp only [go_sem] <;> omega) | fail) only [go_sem]
    repeat (first | apply Wp.seqA | apply Wp.skipS | apply Wp.blockS | ((first | apply Wp.regS | apply Wp.condV | apply Wp.reg | apply Wp.condW | apply fin_ret); simp -implicitDefEqProofs (maxSteps := 2000000) (disch := first | exact tt_rfl rfl | omega | (simp only [go_sem] <;> omega) | fail) only [go_sem, hL, kn] <;> try with_reducible rfl) | apply Wp.block | apply Wp.exitS | apply Wp.retS | apply Wp.exit | apply Wp.ret | apply Wp.skip)
  rw [show largeT [d] = false by simp [largeT, h0]] at hL
  have ho := own_ok d (by omega)
  have hs := Same_ok d d (by omega)
  have hr := refCheck_ok d (by omega)
  rw [own_same] at hs
  have hnn := none_ok 0 [] (by simp)
  simp only [decide_true, Bool.and_self] at hnn
  by_cases hc : checkD d = 0
  · obtain ⟨n, hn, rfl⟩ := checkD_zero hc
    have h24 := hn.h24
    have h60 := hn.r60
    have hr1 := hn.r1
    have hh1 := hn.h1
    rw [hc] at hr
    have m1 := Mirror_ok n hn
    have m2 := Flip_ok n hn
    have m3 := Back_ok n hn
    have r1 := refMirror_ok n hn
    have r2 := refFlip_ok n hn
    have r3 := refBack_ok n hn
    rw [← rowsV, ← mirror_eq hn] at r1
    rw [← flip_eq hn] at r2
    rw [← back_eq hn] at r3
    have g1 := gets_nat n.hk (mirrorN n).rows (by simp [mirrorN, madeN]; omega)
    have g2 := gets_nat n.hk (flipN n).rows (by simp [flipN, madeN]; omega)
    have g3 := gets_nat n.hk (backN n).rows (by simp [backN, madeN]; omega)
    have q1 := nat_plain (mirrorN n).rows
    have q2 := nat_plain (flipN n).rows
    have q3 := nat_plain (backN n).rows
    have t1 : ((mirrorN n).rows.map fun n : Nat => iv (n : Int)).length = n.rows.length := by simp [mirrorN, madeN]
    have t2 : ((flipN n).rows.map fun n : Nat => iv (n : Int)).length = n.rows.length := by simp [flipN, madeN]
    have t3 : ((backN n).rows.map fun n : Nat => iv (n : Int)).length = n.rows.length := by simp [backN, madeN]
    have v1 : ((mirrorN n).rows.map fun n : Nat => iv (n : Int)).take n.rows.length = (mirrorN n).rows.map fun n : Nat => iv (n : Int) := List.take_of_length_le (by omega)
    have v2 : ((flipN n).rows.map fun n : Nat => iv (n : Int)).take n.rows.length = (flipN n).rows.map fun n : Nat => iv (n : Int) := List.take_of_length_le (by omega)
    have v3 : ((backN n).rows.map fun n : Nat => iv (n : Int)).take n.rows.length = (backN n).rows.map fun n : Nat => iv (n : Int) := List.take_of_length_le (by omega)
    have i1 := refIn_ok a 0 ((n.rows.length : Int) - 1)
    have i2 := refIn_ok b 0 ((n.hk : Int) - 1)
    have hln : (n.rows.map fun n : Nat => iv (n : Int)).length = n.rows.length := by simp
    have htk : (n.rows.map fun n : Nat => iv (n : Int)).take n.rows.length = n.rows.map fun n : Nat => iv (n : Int) := List.take_of_length_le (by simp)
    rw [DesN.a_av n] at hL hs hr ho
    rw [DesN.a_av n]
    rw [ma_rows, show n.a.hk = (n.hk : Int) from rfl] at ho
    have hp := nat_plain n.rows
    unfold DesN.out at *
    rw [show (mirrorN n).hk = n.hk from rfl] at m1
    rw [show (flipN n).hk = n.hk from rfl] at m2
    rw [show (backN n).hk = n.hk from rfl] at m3
    generalize (mirrorN n).rows.map (fun n : Nat => iv (n : Int)) = e1 at *
    generalize (flipN n).rows.map (fun n : Nat => iv (n : Int)) = e2 at *
    generalize (backN n).rows.map (fun n : Nat => iv (n : Int)) = e3 at *
    by_cases hi : (0 ≤ a ∧ a ≤ (n.rows.length : Int) - 1) ∧ (0 ≤ b ∧ b ≤ (n.hk : Int) - 1)
    · obtain ⟨x, rfl⟩ : ∃ x : Nat, a = x := ⟨a.toNat, by omega⟩
      obtain ⟨y, rfl⟩ : ∃ y : Nat, b = y := ⟨b.toNat, by omega⟩
      rw [decide_eq_true hi.1] at i1
      rw [decide_eq_true hi.2] at i2
      have m4 := Shift_ok n hn x y (by omega) (by omega)
      have r4 := refShift_ok n hn x y (by omega) (by omega)
      rw [← rowsV, ← shift_eq hn (by omega) (by omega)] at r4
      have g4 := gets_nat n.hk (shiftN n x y).rows (by simp [shiftN, madeN]; omega)
      have q4 := nat_plain (shiftN n x y).rows
      have t4 : ((shiftN n x y).rows.map fun n : Nat => iv (n : Int)).length = n.rows.length := by simp [shiftN, madeN]
      have v4 : ((shiftN n x y).rows.map fun n : Nat => iv (n : Int)).take n.rows.length = (shiftN n x y).rows.map fun n : Nat => iv (n : Int) := List.take_of_length_le (by omega)
      unfold DesN.out at *
      rw [show (shiftN n x y).hk = n.hk from rfl] at m4
      generalize (shiftN n x y).rows.map (fun n : Nat => iv (n : Int)) = e4 at *
      unfold DesN.av at *
      generalize n.rows.map (fun n : Nat => iv (n : Int)) = es at *
      refine lim_by (fn := a10) (k := 3) (res := [.tmp 6]) rfl rfl rfl (by simp -implicitDefEqProofs (maxSteps := 2000000) (disch := first | exact tt_rfl rfl | omega | (simp only [go_sem] <;> omega) | fail) only [go_sem]) ?_
      simp -implicitDefEqProofs (maxSteps := 2000000) (disch := first | exact tt_rfl rfl | omega | (simp only [go_sem] <;> omega) | fail) only [go_sem]
      repeat (first | apply Wp.seqA | apply Wp.skipS | apply Wp.blockS | ((first | apply Wp.regS | apply Wp.condV | apply Wp.reg | apply Wp.condW | apply fin_ret); simp -implicitDefEqProofs (maxSteps := 2000000) (disch := first | exact tt_rfl rfl | omega | (simp only [go_sem] <;> omega) | fail) only [go_sem, hL, ho, hs, hr, m1, m2, m3, m4, r1, r2, r3, r4, g1, g2, g3, g4, i1, i2, q1, q2, q3, q4, t1, t2, t3, t4, v1, v2, v3, v4, kn, hp, hln, htk, List.take_length, ite_self] <;> try with_reducible rfl) | apply Wp.block | apply Wp.exitS | apply Wp.retS | apply Wp.exit | apply Wp.ret | apply Wp.skip)
    · have m4 := Shift_range n hn a b hi
      unfold DesN.av at *
      generalize n.rows.map (fun n : Nat => iv (n : Int)) = es at *
      by_cases hi1 : 0 ≤ a ∧ a ≤ (n.rows.length : Int) - 1
      · have hi2 : ¬ (0 ≤ b ∧ b ≤ (n.hk : Int) - 1) := fun h => hi ⟨hi1, h⟩
        rw [decide_eq_true hi1] at i1
        rw [decide_eq_false hi2] at i2
        refine lim_by (fn := a10) (k := 3) (res := [.tmp 6]) rfl rfl rfl (by simp -implicitDefEqProofs (maxSteps := 2000000) (disch := first | exact tt_rfl rfl | omega | (simp only [go_sem] <;> omega) | fail) only [go_sem]) ?_
        simp -implicitDefEqProofs (maxSteps := 2000000) (disch := first | exact tt_rfl rfl | omega | (simp only [go_sem] <;> omega) | fail) only [go_sem]
        repeat (first | apply Wp.seqA | apply Wp.skipS | apply Wp.blockS | ((first | apply Wp.regS | apply Wp.condV | apply Wp.reg | apply Wp.condW | apply fin_ret); simp -implicitDefEqProofs (maxSteps := 2000000) (disch := first | exact tt_rfl rfl | omega | (simp only [go_sem] <;> omega) | fail) only [go_sem, hL, ho, hs, hr, m1, m2, m3, m4, r1, r2, r3, g1, g2, g3, i1, i2, q1, q2, q3, t1, t2, t3, v1, v2, v3, kn, hp, hln, htk, hnn, List.take_length, List.length_nil, Int.natCast_zero, ite_self] <;> try with_reducible rfl) | apply Wp.block | apply Wp.exitS | apply Wp.retS | apply Wp.exit | apply Wp.ret | apply Wp.skip)
      · rw [decide_eq_false hi1] at i1
        refine lim_by (fn := a10) (k := 3) (res := [.tmp 6]) rfl rfl rfl (by simp -implicitDefEqProofs (maxSteps := 2000000) (disch := first | exact tt_rfl rfl | omega | (simp only [go_sem] <;> omega) | fail) only [go_sem]) ?_
        simp -implicitDefEqProofs (maxSteps := 2000000) (disch := first | exact tt_rfl rfl | omega | (simp only [go_sem] <;> omega) | fail) only [go_sem]
        repeat (first | apply Wp.seqA | apply Wp.skipS | apply Wp.blockS | ((first | apply Wp.regS | apply Wp.condV | apply Wp.reg | apply Wp.condW | apply fin_ret); simp -implicitDefEqProofs (maxSteps := 2000000) (disch := first | exact tt_rfl rfl | omega | (simp only [go_sem] <;> omega) | fail) only [go_sem, hL, ho, hs, hr, m1, m2, m3, m4, r1, r2, r3, g1, g2, g3, i1, q1, q2, q3, t1, t2, t3, v1, v2, v3, kn, hp, hln, htk, hnn, List.take_length, List.length_nil, Int.natCast_zero, ite_self] <;> try with_reducible rfl) | apply Wp.block | apply Wp.exitS | apply Wp.retS | apply Wp.exit | apply Wp.ret | apply Wp.skip)
  · have m1 := Mirror_bad d (by omega) hc
    have m2 := Flip_bad d (by omega) hc
    have m3 := Back_bad d (by omega) hc
    have m4 := Shift_bad d (by omega) hc a b
    unfold DesA.av at *
    generalize checkD d = c at *
    refine lim_by (fn := a10) (k := 3) (res := [.tmp 6]) rfl rfl rfl (by simp -implicitDefEqProofs (maxSteps := 2000000) (disch := first | exact tt_rfl rfl | omega | (simp only [go_sem] <;> omega) | fail) only [go_sem]) ?_
    simp -implicitDefEqProofs (maxSteps := 2000000) (disch := first | exact tt_rfl rfl | omega | (simp only [go_sem] <;> omega) | fail) only [go_sem]
    repeat (first | apply Wp.seqA | apply Wp.skipS | apply Wp.blockS | ((first | apply Wp.regS | apply Wp.condV | apply Wp.reg | apply Wp.condW | apply fin_ret); simp -implicitDefEqProofs (maxSteps := 2000000) (disch := first | exact tt_rfl rfl | omega | (simp only [go_sem] <;> omega) | fail) only [go_sem, hL, ho, hs, hr, hc, m1, m2, m3, m4, hnn, kn, List.length_nil, Int.natCast_zero] <;> try with_reducible rfl) | apply Wp.block | apply Wp.exitS | apply Wp.retS | apply Wp.exit | apply Wp.ret | apply Wp.skip)
end Go.Abs
