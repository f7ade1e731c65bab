/-
 CopyKeys: its arguments as they are read.
-/
import Derived.Test.YtodpkfillohplaaDoorLKeys
import Derived.Test.YtodpkfillohplaaDoorKnown
set_option linter.all false
namespace Go.Abs
theorem copyKeys_ok (d : DesA) (l : List Int) : lim F 6 [d.av, .list 1 (l.map fun k => iv k)] = some (.bool true, []) := keys_main known_ok d l
end Go.Abs
