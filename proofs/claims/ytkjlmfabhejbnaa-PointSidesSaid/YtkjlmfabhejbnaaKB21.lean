/-
  The document's examples: one row bound, by the kernel.
-/
import Derived.Test.YtkjlmfabhejbnaaFns
import Derived.Test.YtkjlmfabhejbnaaK
import Derived.Test.YtkjlmfabhejbnaaMemo
import Derived.KernelRfl
set_option linter.all false
namespace Go.Abs
set_option maxRecDepth 100000
set_option maxHeartbeats 0
def bA21 : List AV := [.bor [iv 21, iv 0, iv 6, iv 2, .bool false, .const (.map none)]]
def bR21 : AV × List AV := (.tuple [.int .i64 21, .int .i64 0], [.bor [.int .i64 21, .int .i64 0, .int .i64 6, .int .i64 2, .bool false, .ownM [true, true, true, false] [[.int .i64 1, .int .i64 2, .int .i64 2, .bool false], [.int .i64 1, .int .i64 1, .int .i64 2, .bool true], [.int .i64 2, .int .i64 1, .int .i64 2, .bool false], [.int .i64 1, .int .i64 1, .int .i64 2, .bool false], [.int .i64 2, .int .i64 2, .int .i64 2, .bool true], [.int .i64 3, .int .i64 1, .int .i64 2, .bool true], [.int .i64 4, .int .i64 2, .int .i64 0, .bool false], [.int .i64 1, .int .i64 1, .int .i64 1, .bool true], [.int .i64 2, .int .i64 2, .int .i64 1, .bool false], [.int .i64 1, .int .i64 1, .int .i64 1, .bool false], [.int .i64 1, .int .i64 2, .int .i64 1, .bool true], [.int .i64 2, .int .i64 1, .int .i64 1, .bool true], [.int .i64 3, .int .i64 1, .int .i64 1, .bool false], [.int .i64 1, .int .i64 2, .int .i64 1, .bool false], [.int .i64 2, .int .i64 1, .int .i64 1, .bool false], [.int .i64 3, .int .i64 2, .int .i64 1, .bool true], [.int .i64 4, .int .i64 1, .int .i64 1, .bool true]] [.int .i64 0, .int .i64 0, .int .i64 0, .int .i64 0, .int .i64 0, .int .i64 0, .int .i64 1, .int .i64 0, .int .i64 1, .int .i64 0, .int .i64 1, .int .i64 0, .int .i64 0, .int .i64 0, .int .i64 0, .int .i64 1, .int .i64 0]]])
theorem bind21 : lim F 64 bA21 = some bR21 := lim_of_eval (n := 60) (by kernel_rfl)
end Go.Abs
