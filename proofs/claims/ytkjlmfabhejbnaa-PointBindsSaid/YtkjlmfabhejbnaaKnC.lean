/-
  The document's examples: the other calls, by the kernel.
-/
import Derived.Test.YtkjlmfabhejbnaaFns
import Derived.Test.YtkjlmfabhejbnaaK
import Derived.Test.YtkjlmfabhejbnaaLim
import Derived.KernelRfl
set_option linter.all false
namespace Go.Abs
set_option maxRecDepth 100000
set_option maxHeartbeats 0
theorem floats_known : lim F 18 [.agg [iv 6, .list 1 [iv 7, iv 56, iv 0, iv 21]], iv 1, iv 2] = some (.tuple [.own 4 [.agg [iv 0, iv 0, iv 3, .bool true], .agg [iv 0, iv 3, iv 3, .bool false], .agg [iv 1, iv 0, iv 3, .bool false], .agg [iv 1, iv 3, iv 3, .bool true], .agg [iv 2, iv 0, iv 1000, .bool false]], iv 0], []) := lim_of_eval (n := 80) (by kernel_rfl)
theorem proof_known : lim F 31 [.agg [iv 6, .list 1 [iv 7, iv 56, iv 0, iv 21]], iv 2] = some (.tuple [.own 4 [.agg [iv 0, iv 0, iv 3, .bool true], .agg [iv 0, iv 3, iv 3, .bool false], .agg [iv 1, iv 0, iv 3, .bool false], .agg [iv 1, iv 3, iv 3, .bool true], .agg [iv 2, iv 0, iv 3, .bool false], .agg [iv 2, iv 3, iv 3, .bool false]], iv 0], []) := lim_of_eval (n := 80) (by kernel_rfl)
end Go.Abs
