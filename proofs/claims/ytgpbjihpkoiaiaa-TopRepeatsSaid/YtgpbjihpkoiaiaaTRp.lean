/-
 Picks and figures: whole repeats of a design. No condition beyond those that each theorem names.
-/
import Derived.Test.YtgpbjihpkoiaiaaG6
set_option linter.all false
namespace Go.Abs
open Go.Abs.Beam
theorem rep_law {t : TakeA} (h : checkT t = 0) {L r k : Int} (hr : 1 ≤ r) (hk : k = picksOf t L / r) : longT t (k * r) 0 ≤ L ∧ L ≤ longT t ((k + 1) * r) 0 := by
 obtain ⟨⟨n1, -⟩, ⟨d1, -⟩⟩ := nT_bound h;have hP : picksOf t L = L * dT t / nT t := rfl;unfold longT longR;generalize nT t = N at *;generalize dT t = D at *;generalize picksOf t L = P at *;have a1 : P * N ≤ L * D := by rw [hP]; exact Int.ediv_mul_le _ (by omega)
 have a2 : L * D < (P + 1) * N := by rw [hP]; exact Int.lt_ediv_add_one_mul_self _ (by omega)
 have b1 : k * r ≤ P := by rw [hk]; exact Int.ediv_mul_le _ (by omega)
 have b2 : P < (k + 1) * r := by rw [hk]; exact Int.lt_ediv_add_one_mul_self _ (by omega)
 constructor
 ·have c1 : k * r * N ≤ L * D := Int.le_trans (Int.mul_le_mul_of_nonneg_right b1 (by omega)) a1
  refine Int.ediv_le_of_le_mul (by omega) ?_
  rw [← Int.mul_assoc]; omega
 ·have c2 : (P + 1) * N ≤ (k + 1) * r * N := Int.mul_le_mul_of_nonneg_right (by omega) (by omega)
  refine Int.le_ediv_of_mul_le (by omega) ?_
  rw [← Int.mul_assoc]; omega
theorem many_law {t : TakeA} (h : checkT t = 0) {L : Int} (h0 : 0 ≤ L) (h1 : L ≤ 1800000) (hn : 1000000 ≤ numT t) (hd : denT t ≤ 10000) : 0 ≤ picksOf t L ∧ picksOf t L ≤ 20000 := by
 have nb := nT_bound h;have hb := numT_bound h;have hg := gT_pos h;have d1 : ((numT t).toNat / gT t) * gT t = (numT t).toNat := Nat.div_mul_cancel (Nat.gcd_dvd_left _ _);have d2 : ((denT t).toNat / gT t) * gT t = (denT t).toNat := Nat.div_mul_cancel (Nat.gcd_dvd_right _ _);have e1 : nT t * (gT t : Int) = numT t := by
  unfold nT;rw [← Int.natCast_mul, d1]; omega
 have e2 : dT t * (gT t : Int) = denT t := by
  unfold dT;rw [← Int.natCast_mul, d2]; omega
 have l1 : picksOf t L * nT t ≤ L * dT t := Int.ediv_mul_le _ (by omega)
 have l2 : picksOf t L * numT t ≤ L * denT t := by
  rw [← e1, ← e2];have := Int.mul_le_mul_of_nonneg_right l1 (show (0 : Int) ≤ gT t by omega)
  rw [Int.mul_assoc, Int.mul_assoc] at this;exact this
 have l0 : 0 ≤ picksOf t L := Int.ediv_nonneg (Int.mul_nonneg h0 (by omega)) (by omega)
 refine ⟨l0, ?_⟩;have l3 : L * denT t ≤ 1800000 * 10000 := Int.mul_le_mul h1 hd (by omega) (by omega)
 have l4 : picksOf t L * 1000000 ≤ picksOf t L * numT t := Int.mul_le_mul_of_nonneg_left hn l0;omega
end Go.Abs
