/-
 Chapter 1: Floats. No condition beyond those that each theorem names.
-/
import Derived.Test.YtlikmkicmpppdaaP6
import Derived.Test.YtlikmkicmpppdaaP5b
set_option linter.all false
namespace Go.Abs
set_option maxRecDepth 10000
set_option maxHeartbeats 4000000
end Go.Abs
