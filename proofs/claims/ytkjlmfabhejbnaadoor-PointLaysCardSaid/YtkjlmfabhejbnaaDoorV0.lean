/-
 Chapter 1: points of a design that goes round. No condition beyond those that each theorem names.
-/
import Derived.Test.YtkjlmfabhejbnaaDoorP4
import Derived.Test.YtkjlmfabhejbnaaDoorM5
set_option linter.all false
namespace Go.Abs
set_option maxRecDepth 10000
set_option maxHeartbeats 4000000
def atN (d : DesN) (p h : Nat) : Bool := (d.rows.getD (p % d.rows.length) 0).testBit (h % d.hk)
def desV (d : DesN) : AV := .agg [iv (d.hk : Int), .list 1 (natsV d.rows)]
end Go.Abs
