/-
 Points that go round, and what floats they have, in plain Lean: no program in sight.
-/
import Derived.Test.YtgpbjihpkoiaiaaV0
set_option linter.all false
namespace Go.Abs
set_option maxRecDepth 10000
end Go.Abs
