/-
  Chapter 1: points of a design that goes round. No condition beyond those that each theorem names.
-/
import Derived.Test.YthafpdlfdkddpaaP4
import Derived.Test.YthafpdlfdkddpaaM5
set_option linter.all false
namespace Go.Abs
set_option maxRecDepth 10000
set_option maxHeartbeats 4000000

/-- a point of a design that goes round -/
def atN (d : DesN) (p h : Nat) : Bool := (d.rows.getD (p % d.rows.length) 0).testBit (h % d.hk)
theorem atN_pick {d : DesN} (hd : d.Ok) {p h : Nat} (hp : p < d.rows.length) : gb (pickR d p) h = atN d p h := by
  unfold gb atN
  have := hd.h1
  have hm := Nat.mod_lt h (show 0 < d.hk by omega)
  rw [pickR_len, List.getD_eq_getElem?_getD, List.getElem?_eq_getElem (by rw [pickR_len]; exact hm), pickR_get hm, Nat.mod_eq_of_lt hp]; rfl
theorem atN_hook {d : DesN} (hd : d.Ok) {p h : Nat} (hh : h < d.hk) : gb (hookR d h) p = atN d p h := by
  unfold gb atN
  have := hd.r1
  have hm := Nat.mod_lt p (show 0 < d.rows.length by omega)
  rw [hookR_len, List.getD_eq_getElem?_getD, List.getElem?_eq_getElem (by rw [hookR_len]; exact hm), hookR_get hm, Nat.mod_eq_of_lt hh]; rfl
theorem atN_mod {d : DesN} {p p' h h' : Nat} (hp : p % d.rows.length = p' % d.rows.length) (hh : h % d.hk = h' % d.hk) : atN d p h = atN d p' h' := by
  unfold atN; rw [hp, hh]
def desV (d : DesN) : AV := .agg [iv (d.hk : Int), .list 1 (natsV d.rows)]
end Go.Abs
