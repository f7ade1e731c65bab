/-
 CopyKeyed: what it looks at is so, for all originals in numbers.
-/
import Derived.Test.YtodpkfillohplaaDoorLKeyed
import Derived.Test.YtodpkfillohplaaDoorKnown
set_option linter.all false
namespace Go.Abs
theorem copyKeyed_ok (x : PressB) (blots a : ByteB) : lim F 11 [x.av, .int .u8 (blots.1 : Int), .int .u8 (a.1 : Int)] = some (.bool true, []) := keyed_main known_ok x blots a
end Go.Abs
