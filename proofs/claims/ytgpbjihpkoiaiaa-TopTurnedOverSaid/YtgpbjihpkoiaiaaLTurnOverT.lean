/-
 TopTurnedOver: what it looks at is so, for every loom.
-/
import Derived.Test.YtgpbjihpkoiaiaaLTurnOver
import Derived.Test.YtgpbjihpkoiaiaaKnA
import Derived.Test.YtgpbjihpkoiaiaaKnTi
import Derived.Test.YtgpbjihpkoiaiaaFlat
set_option linter.all false
namespace Go.Abs
set_option maxRecDepth 10000
theorem topTurnedOver_ok (x : Fin 256 × List (Fin 256) × List (Fin 65536) × List (Fin 256) × Unit) : lim F 6 [.agg [.int .u8 (x.1.1 : Int), .list 1 (x.2.1.map fun r => .int .u8 (r.1 : Int)), .list 1 (x.2.2.1.map fun r => .int .u16 (r.1 : Int)), .list 1 (x.2.2.2.1.map fun r => .int .u8 (r.1 : Int))]] = some (.bool true, []) :=
 turnover_main armPoint_ok armChain_ok armTie_ok ⟨x.1, x.2.1, x.2.2.1, x.2.2.2.1⟩
end Go.Abs
