/-
 Chapter 1: the floats of points that go round. No condition beyond those that each theorem names.
-/
import Derived.Test.YtkjlmfabhejbnaaDoorR1
import Derived.Test.YtkjlmfabhejbnaaDoorM5
import Derived.Test.YtkjlmfabhejbnaaDoorEvI
set_option linter.all false
namespace Go.Abs
set_option maxRecDepth 10000
set_option maxHeartbeats 2000000
theorem ring_get {l : List Bool} {i : Nat} (h : 0 < l.length) : (l.map fun b => AV.bool b)[i % l.length]? = some (.bool (gb l i)) := by
 rw [List.getElem?_map, gb_get h]; rfl
theorem ring_at {l : List Bool} {i : Nat} (h : i < l.length) : (l.map fun b => AV.bool b)[i]? = some (.bool (gb l i)) := by
 have := ring_get (l := l) (i := i) (by omega)
 rwa [Nat.mod_eq_of_lt h] at this
def runV (x : RunT) : List AV := [x.av]
end Go.Abs
