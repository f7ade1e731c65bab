/-
  The document's examples: known() is true, by the kernel.
-/
import Derived.Test.YtfokmdhmaabegaaFns
import Derived.Test.YtfokmdhmaabegaaLim
set_option linter.all false
namespace Go.Abs
set_option maxRecDepth 100000
set_option maxHeartbeats 0
theorem known_ok : lim F 16 [] = some (.bool true, []) := lim_of_eval (n := 100) (by kernel_rfl)
end Go.Abs
