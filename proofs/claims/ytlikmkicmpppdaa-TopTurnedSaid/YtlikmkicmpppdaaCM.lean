/-
 Chapter 2: cards that lie turned. No condition beyond those that each theorem names.
-/
import Derived.Test.YtlikmkicmpppdaaCB
import Derived.KernelRfl
set_option linter.all false
namespace Go.Abs
set_option maxRecDepth 100000
set_option maxHeartbeats 4000000
def mirR (hk r : Nat) : Nat := rowTo (fun h => r.testBit (hk - 1 - h)) hk
noncomputable def mirOne (hk r : Nat) : Bool := match evalCall F 20 90 [iv (hk : Int), iv (r : Int)] with
 | some (.int .i64 n, []) => decide (n = ((mirR hk r : Nat) : Int))
 | _ => false
noncomputable def mirChk : Bool := (List.range 7).all fun k => (List.range (2 ^ (k + 2))).all fun r => mirOne (k + 2) r
theorem mirChk_ok : mirChk = true := by kernel_rfl
theorem mirror_row (hk : Nat) (h2 : 2 ≤ hk) (h8 : hk ≤ 8) (r : Nat) (hr : r < 2 ^ hk) : lim F 90 [iv (hk : Int), iv (r : Int)] = some (iv (mirR hk r : Int), []) := by
 have h := mirChk_ok;unfold mirChk at h;have h1 := List.all_eq_true.1 h (hk - 2) (by simp; omega)
 rw [show hk - 2 + 2 = hk by omega] at h1
 have h3 := List.all_eq_true.1 h1 r (by simpa using hr)
 unfold mirOne at h3;split at h3
 ·rename_i n hn
  rw [of_decide_eq_true h3] at hn;exact lim_of_eval hn
 ·cases h3
end Go.Abs
