/-
 Chapter 12: what the statements share. No condition beyond those that each theorem names.
-/
import Derived.Test.YtodpkfillohplaaDoorX8
set_option linter.all false
namespace Go.Abs
set_option maxRecDepth 10000
set_option maxHeartbeats 4000000
def longT (l : List DesA) : Bool := (l.take 13).any (fun d => decide (65 < d.rows.length)) || decide (12 < l.length)
end Go.Abs
