/-
 CopyTrees: its arguments as they are read.
-/
import Derived.Test.YtodpkfillohplaaDoorLTrees
import Derived.Test.YtodpkfillohplaaDoorKnown
import Derived.Test.YtodpkfillohplaaDoorFlat
namespace Go.Abs
theorem copyTrees_ok (w : Int) (l : List DesA) : lim F 4 [iv w, .list 2 (l.map DesA.av)] = some (.bool true, []) := trees_main known_ok w l
end Go.Abs
