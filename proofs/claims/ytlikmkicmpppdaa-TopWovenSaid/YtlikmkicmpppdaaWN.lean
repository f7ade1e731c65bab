/-
 How many picks a length has, by whole numbers; steps that are all ones. No condition beyond those that each theorem names.
-/
import Derived.Test.YtlikmkicmpppdaaCB
import Derived.Test.YtlikmkicmpppdaaWU
set_option linter.all false
namespace Go.Abs
set_option maxRecDepth 10000
set_option maxHeartbeats 4000000
open Go.Abs.Beam (TakeA PairT checkT nT dT gT numT denT picksOf picksE)
theorem posW_ones {n f : Nat} (hf : f < n) (k : Nat) : ∀ i, i ≤ k → posW n f (List.replicate k 1) i = (f + i) % n
 | 0, _ => by simp [posW, Nat.mod_eq_of_lt hf]
 | i + 1, hi => by
  rw [posW, posW_ones hf k i (by omega), List.getElem?_replicate, if_pos (by omega)]
  simp only [Option.getD_some, Nat.mod_add_mod]
  congr 1
theorem pubOnes_ok (n : Nat) (h : n ≤ 1000) : lim F 16 [iv (n : Int)] = some (.own 1 (natsV (List.replicate n 1)), []) := by
 have hnl : ∀ i, (natsV (List.replicate i 1)).length = i := fun i => by simp
 have hstep : ∀ i, natsV (List.replicate (i + 1) 1) = natsV (List.replicate i 1) ++ [iv 1] := fun i => by
  unfold natsV;rw [List.replicate_succ', List.map_append]; rfl
 have hpl : ∀ i, (natsV (List.replicate i 1)).all AV.plain = true := fun i => nat_plain _
 refine lim_by (fn := a16) (k := 1) (res := [.tmp 2]) rfl rfl rfl (by simp -implicitDefEqProofs (maxSteps := 2000000) (disch := first | exact tt_rfl rfl | omega | (simp only [go_sem] <;> omega) | fail) only [go_sem]) ?_
 try delta mvA
 try delta opA
 try delta tA
 simp -implicitDefEqProofs (maxSteps := 2000000) (disch := first | exact tt_rfl rfl | omega | (simp only [go_sem] <;> omega) | fail) only [go_sem]
 repeat (first | apply Wp.seqA | apply Wp.skipS | apply Wp.blockS | ((first | apply Wp.regS | apply Wp.condV | apply Wp.reg | apply Wp.condW | apply fin_ret); simp -implicitDefEqProofs (maxSteps := 2000000) (disch := first | exact tt_rfl rfl | omega | (simp only [go_sem] <;> omega) | fail) only [go_sem] <;> try with_reducible rfl) | apply Wp.block | apply Wp.exitS | apply Wp.retS | apply Wp.exit | apply Wp.ret | apply Wp.skip)
 apply Wp.loopF n (fun i => ⟨[(0, iv (n : Int)), (3, .slice 192 0 i), (4, iv (i : Int))], [(192, .arr 1 (natsV (List.replicate i 1)))], [], 10000000⟩) (fun _ => True)
 ·simp -implicitDefEqProofs (maxSteps := 2000000) (disch := first | exact tt_rfl rfl | omega | (simp only [go_sem] <;> omega) | fail) only [go_sem, norm_eq, Ok.some]
  rfl
 ·trivial
 intro i hi _;have n1 := hnl i;have P1 := hpl i;have t1 : (natsV (List.replicate i 1)).take i = natsV (List.replicate i 1) := List.take_of_length_le (by omega)
 by_cases h' : i < n
 ·rw [hstep i]
  clear hstep hnl hpl;generalize natsV (List.replicate i 1) = L at *;repeat (first | apply Wp.seqA | apply Wp.skipS | apply Wp.blockS | ((first | apply Wp.regS | apply Wp.condV | apply Wp.reg | apply Wp.condW | apply fin_ret); simp -implicitDefEqProofs (maxSteps := 2000000) (disch := first | exact tt_rfl rfl | omega | (simp only [go_sem] <;> omega) | fail) only [go_sem, h', Int.ofNat_lt, n1, t1] <;> try with_reducible rfl) | apply Wp.block | apply Wp.exitS | apply Wp.retS | apply Wp.exit | apply Wp.ret | apply Wp.skip)
  apply round_next
  ·simp -implicitDefEqProofs (maxSteps := 2000000) (disch := first | exact tt_rfl rfl | omega | (simp only [go_sem] <;> omega) | fail) only [go_sem, norm_eq, Ok.some]; with_reducible rfl
  exact ⟨h', by simp, trivial⟩
 ·obtain rfl : i = n := by omega
  clear hstep hnl hpl;generalize natsV (List.replicate i 1) = L at *;repeat (first | apply Wp.seqA | apply Wp.skipS | apply Wp.blockS | ((first | apply Wp.regS | apply Wp.condV | apply Wp.reg | apply Wp.condW | apply fin_ret); simp -implicitDefEqProofs (maxSteps := 2000000) (disch := first | exact tt_rfl rfl | omega | (simp only [go_sem] <;> omega) | fail) only [go_sem, h', Int.ofNat_lt, n1, P1, t1] <;> try with_reducible rfl) | apply Wp.block | apply Wp.exitS | apply Wp.retS | apply Wp.exit | apply Wp.ret | apply Wp.skip)
theorem mul_inW {a b A B : Int} (a0 : 0 ≤ a) (a1 : a ≤ A) (b0 : 0 ≤ b) (b1 : b ≤ B) : 0 ≤ a * b ∧ a * b ≤ A * B := ⟨Int.mul_nonneg a0 b0, Int.mul_le_mul a1 b1 b0 (by omega)⟩
theorem pubParts_ok (r s dr dn ro : Int) (h1 : 0 ≤ ro * s ∧ ro * s ≤ 10000000) (h2 : 0 ≤ ro * s * dr ∧ ro * s * dr ≤ 1000000000) (h3 : 0 ≤ r * dn ∧ r * dn ≤ 1000000) : lim F 10 [.agg [iv r, iv s, .list 2 [.agg [iv dr, iv dn]], iv ro]] = some (.tuple [iv (ro * s * dr), iv (r * dn)], []) := by
 refine lim_by (fn := a10) (k := 1) (res := [.tmp 2, .tmp 3]) rfl rfl rfl (by simp -implicitDefEqProofs (maxSteps := 2000000) (disch := first | exact tt_rfl rfl | omega | (simp only [go_sem] <;> omega) | fail) only [go_sem]) ?_
 try delta mvA
 try delta opA
 try delta tA
 simp -implicitDefEqProofs (maxSteps := 2000000) (disch := first | exact tt_rfl rfl | omega | (simp only [go_sem] <;> omega) | fail) only [go_sem]
 repeat (first | apply Wp.seqA | apply Wp.skipS | apply Wp.blockS | ((first | apply Wp.regS | apply Wp.condV | apply Wp.reg | apply Wp.condW | apply fin_ret); simp -implicitDefEqProofs (maxSteps := 2000000) (disch := first | exact tt_rfl rfl | omega | (simp only [go_sem] <;> omega) | fail) only [go_sem] <;> try with_reducible rfl) | apply Wp.block | apply Wp.exitS | apply Wp.retS | apply Wp.exit | apply Wp.ret | apply Wp.skip)
theorem picks_law {t : TakeA} (h : checkT t = 0) (L : Int) : picksOf t L * numT t ≤ L * denT t ∧ L * denT t < (picksOf t L + 1) * numT t := by
 have nb := Beam.nT_bound h;have hb := Beam.numT_bound h;have hg := Beam.gT_pos h;have d1 : ((numT t).toNat / gT t) * gT t = (numT t).toNat := Nat.div_mul_cancel (Nat.gcd_dvd_left _ _);have d2 : ((denT t).toNat / gT t) * gT t = (denT t).toNat := Nat.div_mul_cancel (Nat.gcd_dvd_right _ _);have e1 : nT t * (gT t : Int) = numT t := by
  unfold nT;rw [← Int.natCast_mul, d1]; omega
 have e2 : dT t * (gT t : Int) = denT t := by
  unfold dT;rw [← Int.natCast_mul, d2]; omega
 have l1 : picksOf t L * nT t ≤ L * dT t := Int.ediv_mul_le _ (by omega)
 have l2 : L * dT t < (picksOf t L + 1) * nT t := Int.lt_ediv_add_one_mul_self _ (by omega)
 have hg' : (0 : Int) < gT t := by omega
 rw [← e1, ← e2];refine ⟨?_, ?_⟩
 ·have := Int.mul_le_mul_of_nonneg_right l1 (show (0 : Int) ≤ gT t by omega)
  rw [Int.mul_assoc, Int.mul_assoc] at this;exact this
 ·have := Int.mul_lt_mul_of_pos_right l2 hg'
  rw [Int.mul_assoc, Int.mul_assoc] at this;exact this
theorem long_law {N D K len : Int} (hN : 1 ≤ N) (hD : 1 ≤ D) (hK : K = 60 * N / D + 1) (l0 : 0 ≤ len) (l1 : len ≤ 65535) : 0 ≤ len * K ∧ 0 ≤ len * K / 65536 ∧ len * K / 65536 ≤ K - 1 ∧ len * K / 65536 * D ≤ 60 * N := by
 have h0 : 0 ≤ 60 * N / D := Int.ediv_nonneg (by omega) (by omega)
 have h1 : 0 ≤ len * K := Int.mul_nonneg l0 (by omega)
 have h2 : len * K ≤ 65535 * K := Int.mul_le_mul_of_nonneg_right l1 (by omega)
 have h3 : len * K / 65536 ≤ K - 1 := by omega
 have h4 : len * K / 65536 * D ≤ 60 * N / D * D := Int.mul_le_mul_of_nonneg_right (by omega) (by omega)
 have h5 := Int.ediv_mul_le (60 * N) (show D ≠ 0 by omega)
 exact ⟨h1, Int.ediv_nonneg h1 (by omega), h3, by omega⟩
end Go.Abs
