/-
 Several texts: KnU, KnTi.
-/
import Derived.Test.YtgpbjihpkoiaiaaFns
import Derived.Test.YtgpbjihpkoiaiaaK
import Derived.Test.YtgpbjihpkoiaiaaLim
import Derived.KernelRfl
set_option linter.all false
namespace Go.Abs
set_option maxRecDepth 100000
set_option maxHeartbeats 0
theorem pubBeam_ok : lim F 39 [] = some (.bool true, []) := lim_of_eval (n := 60) (by kernel_rfl)
end Go.Abs
set_option linter.all false
namespace Go.Abs
set_option maxRecDepth 100000
set_option maxHeartbeats 0
theorem pubTie_ok : lim F 38 [] = some (.bool true, []) := lim_of_eval (n := 60) (by kernel_rfl)
end Go.Abs
