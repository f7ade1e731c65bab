/-
  TopLong: twice the design is twice as long, or a micrometre more. No condition beyond those that each theorem names.
-/
import Derived.Test.YthafpdlfdkddpaaU2
import Derived.Test.YthafpdlfdkddpaaV4
set_option linter.all false
namespace Go.Abs
set_option maxRecDepth 10000
set_option maxHeartbeats 8000000
open Go.Abs.Beam (TakeA PairT checkT longT longR nT dT tmod_nat tdiv_nat figE SpanOk ROk tkR)

theorem two_div (X D : Int) (hD : 0 < D) : 0 ≤ (2 * X) / D - 2 * (X / D) ∧ (2 * X) / D - 2 * (X / D) ≤ 1 := by
  have h1 := Int.emod_nonneg X (show D ≠ 0 by omega)
  have h2 := Int.emod_lt_of_pos X hD
  have h3 := Int.mul_ediv_add_emod X D
  have h4 : 2 * X = D * (2 * (X / D)) + 2 * (X % D) := by
    have : D * (2 * (X / D)) = 2 * (D * (X / D)) := by rw [Int.mul_left_comm]
    omega
  have h5 : (2 * X) / D = 2 * (X / D) + 2 * (X % D) / D := by
    rw [h4, Int.add_comm, Int.add_mul_ediv_left _ _ (by omega), Int.add_comm]
  have h6 : 0 ≤ 2 * (X % D) / D := Int.ediv_nonneg (by omega) (by omega)
  have h7 : 2 * (X % D) / D < 2 := Int.ediv_lt_of_lt_mul hD (by omega)
  omega
theorem long_two (t : TakeA) (ht : checkT t = 0) (p r : Int) : 0 ≤ longT t (p + p) r - 2 * longT t p r ∧ longT t (p + p) r - 2 * longT t p r ≤ 1 := by
  unfold longT longR
  have e : (p + p) * nT t * (1000 - r) = 2 * (p * nT t * (1000 - r)) := by
    have : p + p = 2 * p := by omega
    rw [this, Int.mul_assoc 2, Int.mul_assoc 2]
  rw [e]
  exact two_div _ _ (by
    have := (tkR ht (p := 0) (by omega) (by omega)).d0
    omega)
theorem long_bnd (t : TakeA) (ht : checkT t = 0) (p r : Int) (p0 : 0 ≤ p) (p1 : p ≤ 100000) (r0 : 0 ≤ r) (r1 : r ≤ 1000) : 0 ≤ longT t p r ∧ longT t p r ≤ 2500000000000000000 := by
  have hk := tkR ht (p := p) p0 p1
  have hb := hk.b r0 r1
  have hd := hk.d0
  have hd1 : 0 < dT t * 1000 := by omega
  unfold longT longR
  have h1 := Int.ediv_nonneg hb.1 (Int.le_of_lt hd1)
  have h2 := Int.ediv_le_self (b := dT t * 1000) hb.1
  omega
theorem long_main (kp : lim F 13 [] = some (.bool true, [])) (kb : lim F 14 [] = some (.bool true, [])) (l : List WordB) (a b c e r s : Nat) (ha : a < 256) (hb : b < 256) (hc : c < 256) (he : e < 256) (hr : r < 256) (hs : s < 256) : lim F 3 [.list 1 (wordsV l), .agg [.int .u8 (a : Int), .int .u8 (b : Int), .int .u8 (c : Int), .int .u8 (e : Int)], .agg [.int .u8 (r : Int), .int .u8 (s : Int)]] = some (.bool true, []) := by
  have hd := pub_ok a l
  have hrw := pub_rows a l
  have hD := pubDesign_ok a ha l
  have hT := pubTake_ok a b c e ha hb hc he
  have hck := pubT_ok a b c e ha
  generalize pubN a l = d at *
  have hCo := pubCopy_ok d (by omega)
  have hAb := Above_ok d d hd hd rfl (by omega)
  have hFl := Flip_ok d hd
  have hMi := Mirror_ok d hd
  have hGe := pubGear_ok (pubT a b c e) (by simp [pubT])
  have l1 : (aboveN d d).rows.length = d.rows.length + d.rows.length := by simp [aboveN]
  have l2 : (flipN d).rows.length = d.rows.length := by simp [flipN, madeN]
  have l3 : (mirrorN d).rows.length = d.rows.length := by simp [mirrorN, madeN]
  have e1 := tmod_nat r 150
  have e2 := tmod_nat s 50
  rw [show ((150 : Nat) : Int) = 150 from rfl] at e1
  rw [show ((50 : Nat) : Int) = 50 from rfl] at e2
  have m1 := Nat.mod_lt r (show 0 < 150 by omega)
  have m2 := Nat.mod_lt s (show 0 < 50 by omega)
  generalize r % 150 = R at *
  generalize s % 50 = S at *
  have hs1 := pubSpan_ok (R : Int) ((R : Int) + (S : Int))
  have hF := fun p => Beam.Figure_ok (pubT a b c e) (R : Int) ((R : Int) + (S : Int)) p
  have hz : ∀ p : Int, 1 ≤ p → p ≤ 100000 → figE (pubT a b c e) (R : Int) ((R : Int) + (S : Int)) p = 0 := fun p h1 h2 => by
    unfold figE
    rw [if_pos hck, if_pos (by unfold SpanOk; omega), if_pos ⟨h1, h2⟩]
  have g1 := hF (d.rows.length : Int)
  have g2 := hF ((d.rows.length + d.rows.length : Nat) : Int)
  rw [hz _ (by omega) (by omega)] at g1 g2
  simp only [if_true] at g1 g2
  have q1 := long_two (pubT a b c e) hck (d.rows.length : Int) (R : Int)
  have q2 := long_two (pubT a b c e) hck (d.rows.length : Int) ((R : Int) + (S : Int))
  rw [show (d.rows.length : Int) + d.rows.length = ((d.rows.length + d.rows.length : Nat) : Int) by omega] at q1 q2
  have b1 := long_bnd (pubT a b c e) hck (d.rows.length : Int) (R : Int) (by omega) (by omega) (by omega) (by omega)
  have b2 := long_bnd (pubT a b c e) hck (d.rows.length : Int) ((R : Int) + (S : Int)) (by omega) (by omega) (by omega) (by omega)
  have hck1 : (pubT a b c e).pairs.length ≤ 1000 := by simp [pubT]
  generalize pubT a b c e = t at *
  generalize longT t (d.rows.length : Int) (R : Int) = x1 at *
  generalize longT t (d.rows.length : Int) ((R : Int) + (S : Int)) = x2 at *
  generalize longT t ((d.rows.length + d.rows.length : Nat) : Int) (R : Int) = x3 at *
  generalize longT t ((d.rows.length + d.rows.length : Nat) : Int) ((R : Int) + (S : Int)) = x4 at *
  unfold DesN.out at hAb hFl hMi
  unfold DesN.av at hAb hFl hMi
  unfold TakeA.av at g1 g2 hGe
  refine lim_by (fn := a3) (k := 3) (res := [.tmp 6]) rfl rfl rfl (by simp -implicitDefEqProofs (maxSteps := 2000000) (disch := first | exact tt_rfl rfl | omega | (simp only [go_sem] <;> omega) | fail) only [go_sem]) ?_
  try delta mvA
  try delta opA
  try delta tA
  simp -implicitDefEqProofs (maxSteps := 2000000) (disch := first | exact tt_rfl rfl | omega | (simp only [go_sem] <;> omega) | fail) only [go_sem]
  repeat (first | apply Wp.seqA | apply Wp.skipS | apply Wp.blockS | ((first | apply Wp.regS | apply Wp.condV | apply Wp.reg | apply Wp.condW | apply fin_ret); simp -implicitDefEqProofs (maxSteps := 2000000) (disch := first | exact tt_rfl rfl | omega | (simp only [go_sem] <;> omega) | fail) only [go_sem, hs1, hD, hT, hCo, hAb, hFl, hMi, hGe, e1, e2, g1, g2, l1, l2, l3, kp, kb, eq_true q1.1, eq_true q1.2, eq_true q2.1, eq_true q2.2] <;> try with_reducible rfl) | apply Wp.block | apply Wp.exitS | apply Wp.retS | apply Wp.exit | apply Wp.ret | apply Wp.skip)
end Go.Abs
