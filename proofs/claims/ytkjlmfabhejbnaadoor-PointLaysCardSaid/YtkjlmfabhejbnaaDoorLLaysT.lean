/-
 PointLays: what it looks at is so, for all designs.
-/
import Derived.Test.YtkjlmfabhejbnaaDoorLLays
import Derived.Test.YtkjlmfabhejbnaaDoorKnown
set_option linter.all false
namespace Go.Abs
theorem pointLays_ok (g f m : DesA) : lim F 3 [g.av, f.av, m.av] = some (.bool true, []) := lays_main known_ok g f m
end Go.Abs
