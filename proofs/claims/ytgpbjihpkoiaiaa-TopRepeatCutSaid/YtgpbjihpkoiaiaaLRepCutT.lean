/-
 TopRepeatCut: what it looks at is so, for every loom and all bytes.
-/
import Derived.Test.YtgpbjihpkoiaiaaLRepCut
import Derived.Test.YtgpbjihpkoiaiaaKnA
import Derived.Test.YtgpbjihpkoiaiaaKnTi
import Derived.Test.YtgpbjihpkoiaiaaFlat
set_option linter.all false
namespace Go.Abs
set_option maxRecDepth 10000
theorem topRepeatCut_ok (x : Fin 256 × List (Fin 256) × List (Fin 65536) × List (Fin 256) × Unit) (q : Arr (Fin 256) 5) (bl : List ByteB) : lim F 5 [.agg [.int .u8 (x.1.1 : Int), .list 1 (x.2.1.map fun r => .int .u8 (r.1 : Int)), .list 1 (x.2.2.1.map fun r => .int .u16 (r.1 : Int)), .list 1 (x.2.2.2.1.map fun r => .int .u8 (r.1 : Int))], .agg (q.1.flatMap fun n => [.int .u8 (n.1 : Int)]), .list 1 (bl.map fun r => .int .u8 (r.1 : Int))] = some (.bool true, []) := by
 obtain ⟨ql, hq⟩ := q
 match ql, hq with
 | [a, b, c, d, e], _ => exact repcut_main armPoint_ok armTie_ok armSeam_ok ⟨x.1, x.2.1, x.2.2.1, x.2.2.2.1⟩ a b c d e bl
end Go.Abs
