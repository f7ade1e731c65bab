/-
 CopyOriginals: its arguments as they are read.
-/
import Derived.Test.YtodpkfillohplaaDoorLOriginals
import Derived.Test.YtodpkfillohplaaDoorKnown
import Derived.Test.YtodpkfillohplaaDoorFlat
set_option linter.all false
namespace Go.Abs
theorem copyOriginals_ok (w : Int) (l : List DesA) (n : Int) : lim F 5 [iv w, .list 2 (l.map DesA.av), iv n] = some (.bool true, []) := originals_main known_ok w l n
end Go.Abs
