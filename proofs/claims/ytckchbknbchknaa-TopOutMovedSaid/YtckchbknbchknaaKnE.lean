/-
 Several texts: KnD, KnE.
-/
import Derived.Test.YtckchbknbchknaaMemo
import Derived.Test.YtckchbknbchknaaFns
import Derived.Test.YtckchbknbchknaaK
import Derived.KernelRfl
set_option linter.all false
namespace Go.Abs
set_option maxRecDepth 100000
set_option maxHeartbeats 0
theorem armChain_ok : lim F 9 [] = some (.bool true, []) := lim_of_eval (n := 60) (by kernel_rfl)
end Go.Abs
set_option linter.all false
namespace Go.Abs
set_option maxRecDepth 100000
set_option maxHeartbeats 0
theorem armEye_ok : lim F 10 [] = some (.bool true, []) := lim_of_eval (n := 60) (by kernel_rfl)
end Go.Abs
