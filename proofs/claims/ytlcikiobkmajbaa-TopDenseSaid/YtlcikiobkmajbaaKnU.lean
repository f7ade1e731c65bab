/-
 The document's examples of chapter 6, by the kernel.
-/
import Derived.Test.YtlcikiobkmajbaaFns
import Derived.Test.YtlcikiobkmajbaaK
import Derived.Test.YtlcikiobkmajbaaLim
import Derived.KernelRfl
set_option linter.all false
namespace Go.Abs
set_option maxRecDepth 100000
set_option maxHeartbeats 0
theorem pubBeam_ok : lim F 17 [] = some (.bool true,[]):=lim_of_eval (n:=60) (by kernel_rfl)
end Go.Abs
