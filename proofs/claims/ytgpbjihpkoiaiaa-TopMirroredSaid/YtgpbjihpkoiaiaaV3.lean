/-
 Chapter 1: a figure that is laid on a ground. No condition beyond those that each theorem names.
-/
import Derived.Test.YtgpbjihpkoiaiaaU1
import Derived.Test.YtgpbjihpkoiaiaaM7
set_option linter.all false
namespace Go.Abs
set_option maxRecDepth 10000
set_option maxHeartbeats 4000000
def layN (g f m : DesN) : DesN := madeN (fun p h => if atN m p h then atN f p h else atN g p h) m.rows.length m.hk
end Go.Abs
