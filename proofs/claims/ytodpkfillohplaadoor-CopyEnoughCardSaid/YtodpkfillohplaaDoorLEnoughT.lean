/-
 CopyEnough: what it looks at is so, for all originals in numbers.
-/
import Derived.Test.YtodpkfillohplaaDoorLEnough
import Derived.Test.YtodpkfillohplaaDoorKnown
set_option linter.all false
namespace Go.Abs
theorem copyEnough_ok (x : PressB) (tries : List ByteB) : lim F 10 [x.av, .list 1 (tries.map fun n => .int .u8 (n.1 : Int))] = some (.bool true, []) := enough_main known_ok x tries
end Go.Abs
