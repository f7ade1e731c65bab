/-
 Point ties, by the kernel: Make, Mirrors, Beside. No condition beyond those that each theorem names.
-/
import Derived.Test.YtgpbjihpkoiaiaaTM
import Derived.KernelRfl
set_option linter.all false
namespace Go.Abs
set_option maxRecDepth 100000
set_option maxHeartbeats 4000000
def refH (hk : Nat) : Nat := hk + (hk - 2)
def pntW (hk t : Nat) : List Nat := (List.range (t * refH hk)).map fun i => min (i % refH hk) (refH hk - i % refH hk)
noncomputable def evIs (f : Nat) (args : List AV) (v : AV) : Bool := match evalCall F 60 f args with
 | some (r,[]) => AV.beq r v
 | _ => false
theorem evIs_lim {f : Nat} {args : List AV} {v : AV} (h : evIs f args v = true) : lim F f args = some (v,[]) := by
 unfold evIs at h;split at h
 ·rename_i r hr
  rw [AV.beq_eq _ _ h] at hr;exact lim_of_eval hr
 ·cases h
noncomputable def pmA (hk t : Nat) : Bool := evIs 31 [iv (hk : Int),.list 4 [.agg [iv 0,iv ((hk : Int) - 1),iv 2,iv (t : Int)]]] (.tuple [.agg [iv (hk : Int),.own 1 (natsV (pntW hk t))],iv 0,iv 0])
noncomputable def pmB (hk t : Nat) : Bool := evIs 50 [.agg [iv (hk : Int),.list 1 (natsV (pntW hk t))]] (.tuple [iv 0,iv 0])
noncomputable def pmC (hk t : Nat) : Bool := evIs 51 [.agg [iv (hk : Int),.list 1 (natsV (pntW hk t))],.agg [iv (hk : Int),.list 1 (natsV (pntW hk t))]] (.tuple [.agg [iv (hk : Int),.own 1 (natsV (pntW hk t ++ pntW hk t))],iv 0])
noncomputable def pmA1 : Bool := (List.range 12).all fun k => pmA (k + 1) 1
theorem pmA1_ok : pmA1 = true := by kernel_rfl
noncomputable def pmA2 : Bool := (List.range 12).all fun k => pmA (k + 1) 2
theorem pmA2_ok : pmA2 = true := by kernel_rfl
noncomputable def pmB1 : Bool := (List.range 12).all fun k => pmB (k + 1) 1
theorem pmB1_ok : pmB1 = true := by kernel_rfl
noncomputable def pmB2 : Bool := (List.range 12).all fun k => pmB (k + 1) 2
theorem pmB2_ok : pmB2 = true := by kernel_rfl
noncomputable def pmC1 : Bool := (List.range 12).all fun k => pmC (k + 1) 1
theorem pmC1_ok : pmC1 = true := by kernel_rfl
noncomputable def pmC2 : Bool := (List.range 12).all fun k => pmC (k + 1) 2
theorem pmC2_ok : pmC2 = true := by kernel_rfl
theorem pmA_all (hk t : Nat) (h1 : 1 ≤ hk) (h2 : hk ≤ 12) (ht : t = 1 ∨ t = 2) : pmA hk t = true := by
 rcases ht with rfl | rfl
 ·have h3 := List.all_eq_true.1 pmA1_ok (hk - 1) (by simp; omega)
  rwa [show hk - 1 + 1 = hk by omega] at h3
 ·have h3 := List.all_eq_true.1 pmA2_ok (hk - 1) (by simp; omega)
  rwa [show hk - 1 + 1 = hk by omega] at h3
theorem pmB_all (hk t : Nat) (h1 : 1 ≤ hk) (h2 : hk ≤ 12) (ht : t = 1 ∨ t = 2) : pmB hk t = true := by
 rcases ht with rfl | rfl
 ·have h3 := List.all_eq_true.1 pmB1_ok (hk - 1) (by simp; omega)
  rwa [show hk - 1 + 1 = hk by omega] at h3
 ·have h3 := List.all_eq_true.1 pmB2_ok (hk - 1) (by simp; omega)
  rwa [show hk - 1 + 1 = hk by omega] at h3
theorem pmC_all (hk t : Nat) (h1 : 1 ≤ hk) (h2 : hk ≤ 12) (ht : t = 1 ∨ t = 2) : pmC hk t = true := by
 rcases ht with rfl | rfl
 ·have h3 := List.all_eq_true.1 pmC1_ok (hk - 1) (by simp; omega)
  rwa [show hk - 1 + 1 = hk by omega] at h3
 ·have h3 := List.all_eq_true.1 pmC2_ok (hk - 1) (by simp; omega)
  rwa [show hk - 1 + 1 = hk by omega] at h3
noncomputable def pmD (R t : Nat) : Bool := mkOne R t
noncomputable def pmD1 : Bool := (List.range 12).all fun k => pmD (refH (k + 1)) 1
theorem pmD1_ok : pmD1 = true := by kernel_rfl
noncomputable def pmD2 : Bool := (List.range 12).all fun k => pmD (refH (k + 1)) 2
theorem pmD2_ok : pmD2 = true := by kernel_rfl
theorem pmD_all (hk t : Nat) (h1 : 1 ≤ hk) (h2 : hk ≤ 12) (ht : t = 1 ∨ t = 2) : mkOne (refH hk) t = true := by
 rcases ht with rfl | rfl
 ·have h3 := List.all_eq_true.1 pmD1_ok (hk - 1) (by simp; omega)
  rwa [show hk - 1 + 1 = hk by omega] at h3
 ·have h3 := List.all_eq_true.1 pmD2_ok (hk - 1) (by simp; omega)
  rwa [show hk - 1 + 1 = hk by omega] at h3
theorem Make_point (hk t : Nat) (h1 : 1 ≤ hk) (h2 : hk ≤ 12) (ht : t = 1 ∨ t = 2) : lim F 31 [iv (hk : Int),.list 4 [.agg [iv 0,iv ((hk : Int) - 1),iv 2,iv (t : Int)]]] = some (.tuple [.agg [iv (hk : Int),.own 1 (natsV (pntW hk t))],iv 0,iv 0],[]) := evIs_lim (pmA_all hk t h1 h2 ht)
theorem Mirrors_point (hk t : Nat) (h1 : 1 ≤ hk) (h2 : hk ≤ 12) (ht : t = 1 ∨ t = 2) : lim F 50 [.agg [iv (hk : Int),.list 1 (natsV (pntW hk t))]] = some (.tuple [iv 0,iv 0],[]) := evIs_lim (pmB_all hk t h1 h2 ht)
theorem Beside_point (hk t : Nat) (h1 : 1 ≤ hk) (h2 : hk ≤ 12) (ht : t = 1 ∨ t = 2) : lim F 51 [.agg [iv (hk : Int),.list 1 (natsV (pntW hk t))],.agg [iv (hk : Int),.list 1 (natsV (pntW hk t))]] = some (.tuple [.agg [iv (hk : Int),.own 1 (natsV (pntW hk t ++ pntW hk t))],iv 0],[]) := evIs_lim (pmC_all hk t h1 h2 ht)
theorem Make_refl (hk t : Nat) (h1 : 1 ≤ hk) (h2 : hk ≤ 12) (ht : t = 1 ∨ t = 2) : lim F 31 [iv (refH hk : Int),.list 4 [.agg [iv 0,iv ((refH hk : Int) - 1),iv 1,iv (t : Int)]]] = some (.tuple [.agg [iv (refH hk : Int),.own 1 (natsV (strW (refH hk) t))],iv 0,iv 0],[]) := Make_of (pmD_all hk t h1 h2 ht)
end Go.Abs
