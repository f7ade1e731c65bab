/-
 TopReadyChain: what it looks at is so, for all bytes.
-/
import Derived.Test.YtlcikiobkmajbaaRL
import Derived.Test.YtlcikiobkmajbaaKnC
import Derived.Test.YtlcikiobkmajbaaKnSh
set_option linter.all false
namespace Go.Abs
set_option maxRecDepth 10000
theorem topReadyChain_ok (rows : List (Fin 65536)) (mix : List (List (Fin 256))) (l : List (Fin 256 × Fin 256 × Fin 256)) : lim F 5 [.list 1 (rows.map fun n=>.int .u16 (n.1 : Int)),.list 1 (mix.map fun m=>.list 1 (m.map fun n=>.int .u8 (n.1 : Int))),.list 3 (l.map fun c=>.agg [.int .u8 (c.1.1 : Int),.int .u8 (c.2.1.1 : Int),.int .u8 (c.2.2.1 : Int)])] = some (.bool true,[]):=ready_main pubChain_ok pubShop_ok rows mix l
end Go.Abs
