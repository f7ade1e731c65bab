/-
 Chapter 2: cards that lie turned. No condition beyond those that each theorem names.
-/
import Derived.Test.YtgpbjihpkoiaiaaCB
import Derived.KernelRfl
set_option linter.all false
namespace Go.Abs
set_option maxRecDepth 100000
set_option maxHeartbeats 4000000
def mirR (hk r : Nat) : Nat := rowTo (fun h => r.testBit (hk - 1 - h)) hk
noncomputable def mirOne (hk r : Nat) : Bool := match evalCall F 20 153 [iv (hk : Int), iv (r : Int)] with
 | some (.int .i64 n, []) => decide (n = ((mirR hk r : Nat) : Int))
 | _ => false
noncomputable def mirChk : Bool := (List.range 7).all fun k => (List.range (2 ^ (k + 2))).all fun r => mirOne (k + 2) r
end Go.Abs
