/-
  The calls of the chapters 6 and 7 whose answers the document's examples say: proved by the kernel.
-/
import Derived.Test.YtmfbeemalfpbjaaK
import Derived.Test.YtmfbeemalfpbjaaFns
import Derived.KernelRfl
set_option linter.all false
namespace Go.Abs
set_option maxRecDepth 100000

theorem armBeam_ok : lim F 8 [] = some (.bool true, []) := lim_of_eval (n := 40) (by kernel_rfl)
theorem armSeam_ok : lim F 9 [] = some (.bool true, []) := lim_of_eval (n := 60) (by kernel_rfl)
end Go.Abs
