/-
  One of the document's examples: Weights, by the kernel.
-/
import Derived.Test.YtbmihapnaclidaaFns
import Derived.Test.YtbmihapnaclidaaLim
set_option linter.all false
namespace Go.Abs
set_option maxRecDepth 100000
set_option maxHeartbeats 0
theorem knB : lim F 44 [.agg [.int .i64 100000, .int .i64 500, .int .i64 201, .int .i64 100000, .int .i64 40, .int .i64 60], .list 1 [.int .i64 60, .int .i64 80, .int .i64 100]] =
    some (.tuple [.own 2 [.agg [.int .i64 200, .int .i64 80], .agg [.int .i64 66, .int .i64 60]], .int .i64 0, .int .i64 0], []) := lim_of_eval (n := 220) (by kernel_rfl)
end Go.Abs
