/-
 CopyRestores: its arguments as they are read.
-/
import Derived.Test.YtodpkfillohplaaDoorLRestores
import Derived.Test.YtodpkfillohplaaDoorKnown
import Derived.Test.YtodpkfillohplaaDoorFlat
set_option linter.all false
namespace Go.Abs
theorem copyRestores_ok (w : Int) (l : List DesA) (keys : List Int) : lim F 7 [iv w, .list 2 (l.map DesA.av), .list 1 (keys.map fun k => iv k)] = some (.bool true, []) := restores_main known_ok w l keys
end Go.Abs
