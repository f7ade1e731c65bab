/-
 Several texts: Y11, Y12, Y13.
-/
import Derived.Test.YtodpkfillohplaaDoorW4
import Derived.Test.YtodpkfillohplaaDoorX10
set_option linter.all false
namespace Go.Abs
end Go.Abs
set_option linter.all false
namespace Go.Abs
def InO (x : PressB) (d : DesN) : Prop := ∀ q j, q < (origN x).rows.length → j < (origN x).hk → ((d.rows.getD q 0).testBit j ^^ wayB x) = true → (((origN x).rows.getD q 0).testBit j ^^ wayB x) = true
end Go.Abs
set_option linter.all false
namespace Go.Abs
theorem madeTo_sets (x : PressB) {N : Nat} (h1 : 1 ≤ N) (h10 : N ≤ 10) : SetsOk (madeTo x N).l (origN x).hk (origN x).rows.length where
 l1 := by rw [(madeTo_len x N).1]; exact h1
 l10 := by rw [(madeTo_len x N).1]; exact h10
 ok := fun d hd => (madeTo_like x N d hd).ok
 hk := fun d hd => (madeTo_like x N d hd).hk
 rows := fun d hd => (madeTo_like x N d hd).rows
end Go.Abs
