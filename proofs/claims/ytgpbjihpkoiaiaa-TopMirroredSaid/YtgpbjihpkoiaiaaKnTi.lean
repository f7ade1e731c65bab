/-
 The document's examples of chapter 3, by the kernel.
-/
import Derived.Test.YtgpbjihpkoiaiaaK
import Derived.Test.YtgpbjihpkoiaiaaFns
import Derived.KernelRfl
set_option linter.all false
namespace Go.Abs
set_option maxRecDepth 100000
set_option maxHeartbeats 0
theorem armTie_ok : lim F 14 [] = some (.bool true,[]) := lim_of_eval (n := 60) (by kernel_rfl)
end Go.Abs
