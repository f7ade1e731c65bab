/-
 Chapter 1: the floats of points that go round. No condition beyond those that each theorem names.
-/
import Derived.Test.YthafpdlfdkddpaaDoorR1
import Derived.Test.YthafpdlfdkddpaaDoorM5
import Derived.Test.YthafpdlfdkddpaaDoorEvI
set_option linter.all false
namespace Go.Abs
set_option maxRecDepth 10000
set_option maxHeartbeats 2000000

def runV (x : RunT) : List AV := [x.av]
end Go.Abs
