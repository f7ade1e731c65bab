/-
 Chapter 1: Mirror, Flip, Back and Shift. No condition beyond those that each theorem names.
-/
import Derived.Test.YtkjlmfabhejbnaaDoorV1
import Derived.Test.YtkjlmfabhejbnaaDoorL1
set_option linter.all false
namespace Go.Abs
set_option maxRecDepth 10000
set_option maxHeartbeats 4000000
def mirrorN (d : DesN) : DesN := madeN (fun p h => atN d p (d.hk - 1 - h)) d.rows.length d.hk
def flipN (d : DesN) : DesN := madeN (fun p h => atN d (d.rows.length - 1 - p) h) d.rows.length d.hk
def backN (d : DesN) : DesN := madeN (fun p h => !atN d p h) d.rows.length d.hk
def shiftN (d : DesN) (a b : Nat) : DesN := madeN (fun p h => atN d (p + d.rows.length - a) (h + d.hk - b)) d.rows.length d.hk
def DesN.out (d : DesN) : AV := .agg [iv (d.hk : Int), .own 1 (d.rows.map fun n : Nat => iv (n : Int))]
end Go.Abs
