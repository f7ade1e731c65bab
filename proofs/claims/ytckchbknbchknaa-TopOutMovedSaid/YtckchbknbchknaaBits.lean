/-
 Words as natural numbers: what the operations on bits give.
-/
import Derived.Test.YtckchbknbchknaaK
set_option linter.all false
namespace Go.Abs
theorem bits64 : IntKind.bits .i64 = 64 := rfl
theorem wrap_nat {n : Nat} (h : n < 9223372036854775808) : IntKind.wrap .i64 (n : Int) = (n : Int) := wrap_id (by omega) (by omega)
def andN (a b : Nat) : Nat := (BitVec.ofNat 64 a &&& ~~~ BitVec.ofNat 64 b).toNat
theorem w_shl (a i : Nat) (hi : i < 64) (h : a * 2 ^ i < 9223372036854775808) : IntKind.wrap .i64 ((a : Int) * 2 ^ min i (IntKind.bits .i64)) = ((a * 2 ^ i : Nat) : Int) := by
 rw [bits64, Nat.min_eq_left (by omega)]
 have e : (a : Int) * 2 ^ i = ((a * 2 ^ i : Nat) : Int) := by simp
 rw [e]; exact wrap_nat h
theorem w_shl1 (i : Nat) (hi : i < 63) : IntKind.wrap .i64 (1 * 2 ^ min i (IntKind.bits .i64)) = ((2 ^ i : Nat) : Int) := by
 have h : 2 ^ i < 2 ^ 63 := Nat.pow_lt_pow_right (by omega) hi
 have := w_shl 1 i (by omega) (by omega)
 simpa using this
end Go.Abs
