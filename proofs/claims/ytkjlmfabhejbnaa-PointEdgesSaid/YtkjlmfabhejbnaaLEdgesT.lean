/-
 PointEdges: its argument as it is read.
-/
import Derived.Test.YtkjlmfabhejbnaaLEdges
import Derived.Test.YtkjlmfabhejbnaaKnown
set_option linter.all false
namespace Go.Abs
theorem pointEdges_ok (x : PaperB) : lim F 13 [x.av] = some (.bool true, []) := edges_main known_ok x
end Go.Abs
