/-
 The document's examples: rows bound, by the kernel.
-/
import Derived.Test.YthafpdlfdkddpaaDoorFns
import Derived.Test.YthafpdlfdkddpaaDoorK
import Derived.Test.YthafpdlfdkddpaaDoorKnS
import Derived.KernelRfl
set_option linter.all false
namespace Go.Abs
set_option maxRecDepth 100000
set_option maxHeartbeats 0
def bA0 : List AV := [.bor [iv 0, iv 0, iv 6, iv 2, .bool false, .const (.map none)]]
def bR0 : AV × List AV := (.tuple [.int .i64 9, .int .i64 2], [.bor [.int .i64 0, .int .i64 0, .int .i64 6, .int .i64 2, .bool false, .ownM [true, true, true, false] [[.int .i64 1, .int .i64 2, .int .i64 2, .bool false], [.int .i64 1, .int .i64 1, .int .i64 2, .bool true], [.int .i64 2, .int .i64 1, .int .i64 2, .bool false], [.int .i64 1, .int .i64 1, .int .i64 2, .bool false], [.int .i64 2, .int .i64 2, .int .i64 2, .bool true], [.int .i64 3, .int .i64 1, .int .i64 2, .bool true], [.int .i64 4, .int .i64 2, .int .i64 0, .bool false]] [.int .i64 1, .int .i64 1, .int .i64 1, .int .i64 1, .int .i64 1, .int .i64 1, .int .i64 2]]])
theorem bind0 : lim F 48 bA0 = some bR0 := lim_of_eval (n := 60) (by kernel_rfl)
end Go.Abs

namespace Go.Abs
set_option maxRecDepth 100000
set_option maxHeartbeats 0
def bA21 : List AV := [.bor [iv 21, iv 0, iv 6, iv 2, .bool false, .const (.map none)]]
def bR21 : AV × List AV := (.tuple [.int .i64 21, .int .i64 0], [.bor [.int .i64 21, .int .i64 0, .int .i64 6, .int .i64 2, .bool false, .ownM [true, true, true, false] [[.int .i64 1, .int .i64 2, .int .i64 2, .bool false], [.int .i64 1, .int .i64 1, .int .i64 2, .bool true], [.int .i64 2, .int .i64 1, .int .i64 2, .bool false], [.int .i64 1, .int .i64 1, .int .i64 2, .bool false], [.int .i64 2, .int .i64 2, .int .i64 2, .bool true], [.int .i64 3, .int .i64 1, .int .i64 2, .bool true], [.int .i64 4, .int .i64 2, .int .i64 0, .bool false], [.int .i64 1, .int .i64 1, .int .i64 1, .bool true], [.int .i64 2, .int .i64 2, .int .i64 1, .bool false], [.int .i64 1, .int .i64 1, .int .i64 1, .bool false], [.int .i64 1, .int .i64 2, .int .i64 1, .bool true], [.int .i64 2, .int .i64 1, .int .i64 1, .bool true], [.int .i64 3, .int .i64 1, .int .i64 1, .bool false], [.int .i64 1, .int .i64 2, .int .i64 1, .bool false], [.int .i64 2, .int .i64 1, .int .i64 1, .bool false], [.int .i64 3, .int .i64 2, .int .i64 1, .bool true], [.int .i64 4, .int .i64 1, .int .i64 1, .bool true]] [.int .i64 0, .int .i64 0, .int .i64 0, .int .i64 0, .int .i64 0, .int .i64 0, .int .i64 1, .int .i64 0, .int .i64 1, .int .i64 0, .int .i64 1, .int .i64 0, .int .i64 0, .int .i64 0, .int .i64 0, .int .i64 1, .int .i64 0]]])
theorem bind21 : lim F 48 bA21 = some bR21 := lim_of_eval (n := 60) (by kernel_rfl)
end Go.Abs

namespace Go.Abs
set_option maxRecDepth 100000
set_option maxHeartbeats 0
def bA56 : List AV := [.bor [iv 56, iv 0, iv 6, iv 2, .bool false, .const (.map none)]]
def bR56 : AV × List AV := (.tuple [.int .i64 25, .int .i64 2], [.bor [.int .i64 56, .int .i64 0, .int .i64 6, .int .i64 2, .bool false, .ownM [true, true, true, false] [[.int .i64 1, .int .i64 2, .int .i64 2, .bool false], [.int .i64 1, .int .i64 1, .int .i64 2, .bool true], [.int .i64 2, .int .i64 1, .int .i64 2, .bool false], [.int .i64 1, .int .i64 1, .int .i64 2, .bool false], [.int .i64 2, .int .i64 2, .int .i64 2, .bool true], [.int .i64 3, .int .i64 1, .int .i64 2, .bool true], [.int .i64 4, .int .i64 2, .int .i64 0, .bool false], [.int .i64 1, .int .i64 1, .int .i64 1, .bool true], [.int .i64 2, .int .i64 2, .int .i64 1, .bool false], [.int .i64 1, .int .i64 1, .int .i64 1, .bool false], [.int .i64 1, .int .i64 2, .int .i64 1, .bool true], [.int .i64 2, .int .i64 1, .int .i64 1, .bool true], [.int .i64 3, .int .i64 1, .int .i64 1, .bool false], [.int .i64 1, .int .i64 2, .int .i64 1, .bool false], [.int .i64 2, .int .i64 1, .int .i64 1, .bool false], [.int .i64 3, .int .i64 2, .int .i64 1, .bool true], [.int .i64 4, .int .i64 1, .int .i64 1, .bool true]] [.int .i64 1, .int .i64 1, .int .i64 1, .int .i64 1, .int .i64 1, .int .i64 1, .int .i64 1, .int .i64 0, .int .i64 1, .int .i64 1, .int .i64 0, .int .i64 1, .int .i64 1, .int .i64 1, .int .i64 1, .int .i64 1, .int .i64 1]]])
theorem bind56 : lim F 48 bA56 = some bR56 := lim_of_eval (n := 60) (by kernel_rfl)
end Go.Abs

namespace Go.Abs
set_option maxRecDepth 100000
set_option maxHeartbeats 0
def bA63 : List AV := [.bor [iv 0, iv 63, iv 6, iv 2, .bool false, .const (.map none)]]
def bR63 : AV × List AV := (.tuple [.int .i64 0, .int .i64 1048576], [.bor [.int .i64 0, .int .i64 63, .int .i64 6, .int .i64 2, .bool true, .ownM [true, true, true, false] [[.int .i64 1, .int .i64 1, .int .i64 1, .bool false], [.int .i64 1, .int .i64 2, .int .i64 1, .bool true], [.int .i64 2, .int .i64 1, .int .i64 1, .bool true], [.int .i64 3, .int .i64 2, .int .i64 1, .bool false], [.int .i64 1, .int .i64 2, .int .i64 1, .bool false], [.int .i64 1, .int .i64 1, .int .i64 1, .bool true], [.int .i64 2, .int .i64 1, .int .i64 1, .bool false], [.int .i64 2, .int .i64 2, .int .i64 1, .bool true], [.int .i64 3, .int .i64 1, .int .i64 1, .bool true], [.int .i64 4, .int .i64 1, .int .i64 1, .bool false], [.int .i64 1, .int .i64 1, .int .i64 2, .bool true], [.int .i64 2, .int .i64 2, .int .i64 2, .bool false], [.int .i64 1, .int .i64 1, .int .i64 2, .bool false], [.int .i64 1, .int .i64 2, .int .i64 2, .bool true], [.int .i64 2, .int .i64 1, .int .i64 2, .bool true], [.int .i64 3, .int .i64 1, .int .i64 2, .bool false], [.int .i64 4, .int .i64 2, .int .i64 0, .bool true], [.int .i64 5, .int .i64 1, .int .i64 0, .bool true]] [.int .i64 0, .int .i64 0, .int .i64 0, .int .i64 1048576, .int .i64 1048576, .int .i64 0, .int .i64 1048576, .int .i64 0, .int .i64 1048576, .int .i64 1048576, .int .i64 0, .int .i64 1048576, .int .i64 0, .int .i64 0, .int .i64 0, .int .i64 1048576, .int .i64 1048576, .int .i64 1048576]]])
end Go.Abs

namespace Go.Abs
set_option maxRecDepth 100000
set_option maxHeartbeats 0
def bA7 : List AV := [.bor [iv 7, iv 0, iv 6, iv 2, .bool false, .const (.map none)]]
def bR7 : AV × List AV := (.tuple [.int .i64 11, .int .i64 2], [.bor [.int .i64 7, .int .i64 0, .int .i64 6, .int .i64 2, .bool false, .ownM [true, true, true, false] [[.int .i64 1, .int .i64 2, .int .i64 2, .bool false], [.int .i64 1, .int .i64 1, .int .i64 2, .bool true], [.int .i64 2, .int .i64 1, .int .i64 2, .bool false], [.int .i64 1, .int .i64 1, .int .i64 2, .bool false], [.int .i64 2, .int .i64 2, .int .i64 2, .bool true], [.int .i64 3, .int .i64 1, .int .i64 2, .bool true], [.int .i64 4, .int .i64 2, .int .i64 0, .bool false]] [.int .i64 0, .int .i64 0, .int .i64 0, .int .i64 0, .int .i64 1, .int .i64 1, .int .i64 2]]])
theorem bind7 : lim F 48 bA7 = some bR7 := lim_of_eval (n := 60) (by kernel_rfl)
end Go.Abs
