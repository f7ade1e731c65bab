/-
 TopSkipped: what it looks at is so, for every loom and every list of bytes.
-/
import Derived.Test.YtlikmkicmpppdaaLSkipped
import Derived.Test.YtlikmkicmpppdaaKnD
set_option linter.all false
namespace Go.Abs
set_option maxRecDepth 10000
theorem topSkipped_ok (x : Fin 256 × List (Fin 256) × List (Fin 65536) × List (Fin 256) × Unit) (st : List ByteB) : lim F 4 [.agg [.int .u8 (x.1.1 : Int), .list 1 (x.2.1.map fun r => .int .u8 (r.1 : Int)), .list 1 (x.2.2.1.map fun r => .int .u16 (r.1 : Int)), .list 1 (x.2.2.2.1.map fun r => .int .u8 (r.1 : Int))], .list 1 (bytesV st)] = some (.bool true, []) := skipped_main armChain_ok armSeam_ok ⟨x.1, x.2.1, x.2.2.1, x.2.2.2.1⟩ st
end Go.Abs
