/-
 What (tie.harness).pick gives, as a function of values: a byte for each warp, 'x' if its hook's bit is set in the row, '.' if not.
-/
import Derived.Test.YtgpbjihpkoiaiaaAbs
set_option linter.all false
namespace Go.Abs
def warpOf : AV → Option Nat
 | .int .i64 n => if 0 ≤ n ∧ n < 63 then some n.toNat else none
 | _ => none
def pickB (row : Nat) (ws : List Nat) : List UInt8 := ws.map fun w => if row.testBit w then 120 else 46
def tieV : List AV → Option AV
 | [.agg [.int .i64 _,.list 1 es],.int .i64 row] => match mapO warpOf es with
  | some ws => if 0 ≤ row ∧ row < 9223372036854775808 ∧ es.length ≤ 1000 then some (strA (pickB row.toNat ws)) else none
  | none => none
 | _ => none
end Go.Abs
