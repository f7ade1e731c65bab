/-
  The document's examples of chapter 1, by the kernel; rows that are bound are looked up.
-/
import Derived.Test.YthafpdlfdkddpaaMemo
import Derived.Test.YthafpdlfdkddpaaFns
import Derived.Test.YthafpdlfdkddpaaK
import Derived.KernelRfl
set_option linter.all false
namespace Go.Abs
set_option maxRecDepth 100000
set_option maxHeartbeats 0
theorem pubFloats_ok : lim F 26 [.agg [iv 6, .list 1 [iv 7, iv 56, iv 0, iv 21]], iv 1, iv 3] = some (.tuple [.own 4 [.agg [iv 2, iv 0, iv 1000, .bool false]], iv 0], []) := lim_of_eval (n := 60) (by kernel_rfl)
theorem pubShift_ok : lim F 27 [.agg [iv 6, .list 1 [iv 21, iv 42]], iv 0, iv 1] = some (.tuple [.agg [iv 6, .own 1 [iv 42, iv 21]], iv 0], []) := lim_of_eval (n := 60) (by kernel_rfl)
end Go.Abs
