/-
 Several texts: ArmS, KnE.
-/
import Derived.Test.YtgpbjihpkoiaiaaK
import Derived.Test.YtgpbjihpkoiaiaaFns
import Derived.KernelRfl
set_option linter.all false
namespace Go.Abs
set_option maxRecDepth 100000
theorem armSeam_ok : lim F 16 [] = some (.bool true,[]) := lim_of_eval (n := 60) (by kernel_rfl)
end Go.Abs
set_option linter.all false
namespace Go.Abs
set_option maxRecDepth 100000
set_option maxHeartbeats 0
theorem armEye_ok : lim F 58 [] = some (.bool true,[]) := lim_of_eval (n := 60) (by kernel_rfl)
end Go.Abs
