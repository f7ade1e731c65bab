/-
 Package variables that are only read, with what they hold: none here. A seat over such variables has a text of its own in this one's place.
-/
import Derived.Test.YtlcikiobkmajbaaAbs
set_option linter.all false
namespace Go.Abs
def globT : List (Nat × List AV):=[]
end Go.Abs
