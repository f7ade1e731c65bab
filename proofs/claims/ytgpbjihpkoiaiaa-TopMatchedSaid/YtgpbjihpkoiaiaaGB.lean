/-
 What a take-up and its figures are like, in bytes, and picks that are all alike. No condition beyond those that each theorem names.
-/
import Derived.Test.YtgpbjihpkoiaiaaG6
import Derived.Test.YtgpbjihpkoiaiaaFlat
set_option linter.all false
namespace Go.Abs
set_option maxRecDepth 10000
set_option maxHeartbeats 2000000
open Go.Abs.Beam (TakeA PairT checkT longT longR nT dT tmod_nat tdiv_nat)
structure GearB where
 rat : Fin 256
 dr : Fin 256
 dn : Fin 256
 round : Fin 65536
 r0 : Fin 256
 r1 : Fin 256
def GearB.av (x : GearB) : AV := .agg [.int .u8 (x.rat.1 : Int), .int .u8 (x.dr.1 : Int), .int .u8 (x.dn.1 : Int), .int .u16 (x.round.1 : Int), .int .u8 (x.r0.1 : Int), .int .u8 (x.r1.1 : Int)]
def GearB.t (x : GearB) : TakeA := ⟨20 + (x.rat.1 % 80 : Nat), 1, [⟨10 + (x.dr.1 % 30 : Nat), 40 + (x.dn.1 % 60 : Nat)⟩], 20000 + x.round.1⟩
def GearB.lo (x : GearB) : Int := (x.r0.1 % 100 : Nat)
def GearB.hi (x : GearB) : Int := x.lo + (x.r1.1 % 100 : Nat)
theorem GearB.span (x : GearB) : 0 ≤ x.lo ∧ x.lo ≤ x.hi ∧ x.hi ≤ 198 := by unfold GearB.hi GearB.lo; omega
theorem gearB_ok (x : GearB) : checkT x.t = 0 := by
 have h := x.round.2;unfold checkT;rw [if_neg (by simp [GearB.t]), if_pos]
 refine ⟨⟨by simp only [GearB.t]; omega, by simp only [GearB.t]; omega, by simp only [GearB.t]; omega⟩, fun p hp => ?_⟩
 rw [List.mem_singleton.1 hp];exact ⟨by simp only; omega, by simp only; omega⟩
theorem gearB_bound (x : GearB) : (20 * dT x.t ≤ nT x.t) ∧ (1 ≤ nT x.t ∧ nT x.t ≤ 3335865) ∧ 1 ≤ dT x.t ∧ dT x.t ≤ 9801 := by
 have hc := gearB_ok x;have hg := Beam.gT_pos hc;have h := x.round.2;have nb := Beam.nT_bound hc;obtain ⟨a, ha⟩ : Beam.gT x.t ∣ (Beam.numT x.t).toNat := Nat.gcd_dvd_left _ _;obtain ⟨b, hb⟩ : Beam.gT x.t ∣ (Beam.denT x.t).toNat := Nat.gcd_dvd_right _ _;have ea : nT x.t = a := by unfold nT; rw [ha, Nat.mul_div_cancel_left _ hg]
 have eb : dT x.t = b := by unfold dT; rw [hb, Nat.mul_div_cancel_left _ hg]
 have mb := Beam.numT_bound hc;have e1 : Beam.numT x.t = (20000 + (x.round.1 : Int)) * (10 + (x.dr.1 % 30 : Nat)) := by simp [Beam.numT, Beam.numP, GearB.t]
 have e2 : Beam.denT x.t = (20 + ((x.rat.1 % 80 : Nat) : Int)) * (40 + (x.dn.1 % 60 : Nat)) := by simp [Beam.denT, Beam.denP, GearB.t]
 have m1 := Beam.prod_bound (a := 20000 + (x.round.1 : Int)) (b := 10 + ((x.dr.1 % 30 : Nat) : Int)) (A := 85535) (B := 39) (by omega) (by omega) (by omega) (by omega)
 have m2 := Beam.prod_bound (a := 20 + ((x.rat.1 % 80 : Nat) : Int)) (b := 40 + ((x.dn.1 % 60 : Nat) : Int)) (A := 99) (B := 99) (by omega) (by omega) (by omega) (by omega)
 have m3 : 20000 * 10 ≤ (20000 + (x.round.1 : Int)) * (10 + ((x.dr.1 % 30 : Nat) : Int)) := Int.mul_le_mul (by omega) (by omega) (by omega) (by omega)
 rw [← e1] at m1 m3;rw [← e2] at m2;have h1 : a ≤ (Beam.numT x.t).toNat := by rw [ha]; exact Nat.le_mul_of_pos_left _ hg
 have h2 : b ≤ (Beam.denT x.t).toNat := by rw [hb]; exact Nat.le_mul_of_pos_left _ hg
 have h3 : 20 * (Beam.denT x.t).toNat ≤ (Beam.numT x.t).toNat := by omega
 have h4 : 20 * b ≤ a := by
  rw [ha, hb, Nat.mul_left_comm] at h3;exact Nat.le_of_mul_le_mul_left h3 hg
 rw [ea, eb] at nb ⊢;omega
theorem armSpanG_ok (a b : Int) : lim F 22 [iv a, iv b] = some (.agg [iv a, iv b], []) := by
 refine Yr (fn:=a22) (k:=2) (res:=[.cell 4 2 true]) rfl rfl rfl (by simp -implicitDefEqProofs(maxSteps:=9^7)(disch:=first|exact Yo rfl|omega|(simp only[go_sem]<;>omega)|fail)only[go_sem]) ?_
 try delta mvA
 try delta opA
 try delta tA
 simp -implicitDefEqProofs(maxSteps:=9^7)(disch:=first|exact Yo rfl|omega|(simp only[go_sem]<;>omega)|fail)only[go_sem]
 repeat(first|apply Ya|apply Yb|apply Yc|((first|apply Yd|apply Ye|apply Yf|apply Yg|apply Yh);simp -implicitDefEqProofs(maxSteps:=9^7)(disch:=first|exact Yo rfl|omega|(simp only[go_sem]<;>omega)|fail)only[go_sem]<;>try with_reducible rfl)|apply Yi|apply Yj|apply Yk|apply Yl|apply Ym|apply Yn)
theorem armTake_ok (x : GearB) : lim F 11 [x.av] = some (.tuple [.agg [iv x.t.rat, iv x.t.step, .own 2 (x.t.pairs.map PairT.av), iv x.t.round], .agg [iv x.lo, iv x.hi]], []) := by
 have hs := armSpanG_ok x.lo x.hi;have q0 := x.rat.2;have q1 := x.dr.2;have q2 := x.dn.2;have q3 := x.round.2;have q4 := x.r0.2;have q5 := x.r1.2;have e0 := tmod_nat x.rat.1 80;have e1 := tmod_nat x.dr.1 30;have e2 := tmod_nat x.dn.1 60;have e4 := tmod_nat x.r0.1 100;have e5 := tmod_nat x.r1.1 100;rw [show ((80 : Nat) : Int) = 80 from rfl] at e0
 rw [show ((30 : Nat) : Int) = 30 from rfl] at e1
 rw [show ((60 : Nat) : Int) = 60 from rfl] at e2
 rw [show ((100 : Nat) : Int) = 100 from rfl] at e4 e5
 unfold GearB.hi GearB.lo at *;unfold GearB.av GearB.t;refine Yr (fn:=a11) (k:=1) (res:=[.cell 2 4 true, .cell 3 2 true]) rfl rfl rfl (by simp -implicitDefEqProofs(maxSteps:=9^7)(disch:=first|exact Yo rfl|omega|(simp only[go_sem]<;>omega)|fail)only[go_sem]) ?_
 try delta mvA
 try delta opA
 try delta tA
 simp -implicitDefEqProofs(maxSteps:=9^7)(disch:=first|exact Yo rfl|omega|(simp only[go_sem]<;>omega)|fail)only[go_sem]
 repeat(first|apply Ya|apply Yb|apply Yc|((first|apply Yd|apply Ye|apply Yf|apply Yg|apply Yh);simp -implicitDefEqProofs(maxSteps:=9^7)(disch:=first|exact Yo rfl|omega|(simp only[go_sem]<;>omega)|fail)only[go_sem, e0, e1, e2, e4, e5, hs, PairT.av.eq_1]<;>try with_reducible rfl)|apply Yi|apply Yj|apply Yk|apply Yl|apply Ym|apply Yn)
def widLo (x : GearB) : Int := nT x.t * (1000 - x.hi) / (1000 * dT x.t)
def widHi (x : GearB) : Int := (nT x.t * (1000 - x.lo) + 1000 * dT x.t - 1) / (1000 * dT x.t)
theorem armWidth_ok (x : GearB) : lim F 13 [.agg [iv (nT x.t), iv (dT x.t)], .agg [iv x.lo, iv x.hi]] = some (.agg [iv (max 1 (widLo x)), iv (max 1 (widHi x))], []) := by
 obtain ⟨b0, b1, b2⟩ := gearB_bound x;have hs := x.span;have m1 : 0 ≤ nT x.t * (1000 - x.hi) := Int.mul_nonneg (by omega) (by omega)
 have m2 : nT x.t * (1000 - x.hi) ≤ 3335865 * 1000 := Int.mul_le_mul (by omega) (by omega) (by omega) (by omega)
 have m3 : 0 ≤ nT x.t * (1000 - x.lo) := Int.mul_nonneg (by omega) (by omega)
 have m4 : nT x.t * (1000 - x.lo) ≤ 3335865 * 1000 := Int.mul_le_mul (by omega) (by omega) (by omega) (by omega)
 have e1 : Int.tdiv (nT x.t * (1000 - x.hi)) (1000 * dT x.t) = widLo x := Int.tdiv_eq_ediv_of_nonneg m1;have e2 : Int.tdiv (nT x.t * (1000 - x.lo) + 1000 * dT x.t - 1) (1000 * dT x.t) = widHi x := Int.tdiv_eq_ediv_of_nonneg (by omega)
 have h1 : 0 ≤ widLo x := Int.ediv_nonneg m1 (by omega)
 have h2 : widLo x ≤ nT x.t * (1000 - x.hi) := Int.ediv_le_self _ m1;have h3 : 0 ≤ widHi x := Int.ediv_nonneg (by omega) (by omega)
 have h4 : widHi x ≤ nT x.t * (1000 - x.lo) + 1000 * dT x.t - 1 := Int.ediv_le_self _ (by omega)
 have hs1 := armSpanG_ok (max 1 (widLo x)) (max 1 (widHi x));generalize widLo x = wl at *;generalize widHi x = wh at *;refine Yr (fn:=a13) (k:=2) (res:=[.cell 4 2 true]) rfl rfl rfl (by simp -implicitDefEqProofs(maxSteps:=9^7)(disch:=first|exact Yo rfl|omega|(simp only[go_sem]<;>omega)|fail)only[go_sem]) ?_
 try delta mvA
 try delta opA
 try delta tA
 simp -implicitDefEqProofs(maxSteps:=9^7)(disch:=first|exact Yo rfl|omega|(simp only[go_sem]<;>omega)|fail)only[go_sem]
 repeat(first|apply Ya|apply Yb|apply Yc|((first|apply Yd|apply Ye|apply Yf|apply Yg|apply Yh);simp -implicitDefEqProofs(maxSteps:=9^7)(disch:=first|exact Yo rfl|omega|(simp only[go_sem]<;>omega)|fail)only[go_sem, e1, e2, hs1, show 1000 * dT x.t ≠ 0 by omega]<;>try with_reducible rfl)|apply Yi|apply Yj|apply Yk|apply Yl|apply Ym|apply Yn)
theorem wid_le (x : GearB) : widLo x ≤ widHi x ∧ 1 ≤ widHi x ∧ widHi x ≤ 3346000000 := by
 obtain ⟨b0, b1, b2⟩ := gearB_bound x;have hs := x.span;have m1 : nT x.t * (1000 - x.hi) ≤ nT x.t * (1000 - x.lo) := Int.mul_le_mul_of_nonneg_left (by omega) (by omega)
 have m3 : 1 * 1 ≤ nT x.t * (1000 - x.lo) := Int.mul_le_mul (by omega) (by omega) (by omega) (by omega)
 have m4 : nT x.t * (1000 - x.lo) ≤ 3335865 * 1000 := Int.mul_le_mul (by omega) (by omega) (by omega) (by omega)
 have h4 : widHi x ≤ nT x.t * (1000 - x.lo) + 1000 * dT x.t - 1 := Int.ediv_le_self _ (by omega)
 refine ⟨Int.ediv_le_ediv (by omega) (by omega), Int.le_ediv_of_mul_le (by omega) (by omega), ?_⟩
 omega
end Go.Abs
