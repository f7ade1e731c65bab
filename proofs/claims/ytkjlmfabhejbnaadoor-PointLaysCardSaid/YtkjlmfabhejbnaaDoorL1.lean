/-
 Chapter 1: the least repeat of a design. No condition beyond those that each theorem names.
-/
import Derived.Test.YtkjlmfabhejbnaaDoorP2
import Derived.Test.YtkjlmfabhejbnaaDoorM5
set_option linter.all false
namespace Go.Abs
set_option maxRecDepth 10000
set_option maxHeartbeats 2000000
def DesN.cap (d : DesN) : AV := .iptr (.agg [iv (d.hk : Int), .list 1 (d.rows.map fun n : Nat => iv (n : Int))]) 0
end Go.Abs
