/-
 TopMatched: what it looks at is so, for every loom and all take-ups.
-/
import Derived.Test.YtgpbjihpkoiaiaaLMatched
import Derived.Test.YtgpbjihpkoiaiaaKnTi
import Derived.Test.YtgpbjihpkoiaiaaFlat
set_option linter.all false
namespace Go.Abs
set_option maxRecDepth 10000
theorem topMatched_ok (x : Fin 256 × List (Fin 256) × List (Fin 65536) × List (Fin 256) × Unit) (a b : GearB) : lim F 3 [.agg [.int .u8 (x.1.1 : Int), .list 1 (x.2.1.map fun r => .int .u8 (r.1 : Int)), .list 1 (x.2.2.1.map fun r => .int .u16 (r.1 : Int)), .list 1 (x.2.2.2.1.map fun r => .int .u8 (r.1 : Int))], a.av, b.av] = some (.bool true, []) :=
 matched_main armTie_ok armBeam_ok armSeam_ok ⟨x.1, x.2.1, x.2.2.1, x.2.2.2.1⟩ a b
end Go.Abs
