/-
 The document's examples of chapter 10, by the kernel.
-/
import Derived.Test.YtlcikiobkmajbaaK
import Derived.Test.YtlcikiobkmajbaaFns
import Derived.KernelRfl
set_option linter.all false
namespace Go.Abs
set_option maxRecDepth 100000
set_option maxHeartbeats 0
theorem pubPay_ok : lim F 32 [] = some (.bool true,[]):=lim_of_eval (n:=60) (by kernel_rfl)
end Go.Abs
