/-
 TopSeamDays: what it looks at is so, for all bytes.
-/
import Derived.Test.YtlcikiobkmajbaaLE3
import Derived.Test.YtlcikiobkmajbaaKnSm
import Derived.Test.YtlcikiobkmajbaaKnSh
set_option linter.all false
namespace Go.Abs
set_option maxRecDepth 10000
theorem topSeamDays_ok (cs : List RowY) (bad : List (Fin 256)) (l : List (Fin 256 × Fin 256 × Fin 256)) : lim F 4 [.list 6 (cs.map rowY),.list 1 (bad.map fun n => .int .u8 (n.1 : Int)),.list 3 (l.map fun c => .agg [.int .u8 (c.1.1 : Int),.int .u8 (c.2.1.1 : Int),.int .u8 (c.2.2.1 : Int)])] = some (.bool true,[]):=seamdays_main pubSeam_ok pubShop_ok cs bad l
end Go.Abs
