/-
 Chapter 12: the tree has no more changes than were made.
-/
import Derived.Test.YtodpkfillohplaaDoorY13
set_option linter.all false
namespace Go.Abs
end Go.Abs
