/-
  TopLong: what it looks at is so, for all rows and bytes.
-/
import Derived.Test.YthafpdlfdkddpaaLLong
import Derived.Test.YthafpdlfdkddpaaKnP
import Derived.Test.YthafpdlfdkddpaaKnU
set_option linter.all false
namespace Go.Abs
set_option maxRecDepth 10000
theorem topLong_ok (l : List WordB) (v : Arr (Fin 256) 4) (w : Arr (Fin 256) 2) : lim F 3 [.list 1 (wordsV l), .agg (v.1.flatMap fun n => [.int .u8 (n.1 : Int)]), .agg (w.1.flatMap fun n => [.int .u8 (n.1 : Int)])] = some (.bool true, []) := by
  obtain ⟨vl, hv⟩ := v
  obtain ⟨wl, hw⟩ := w
  match vl, hv, wl, hw with
  | [a, b, c, e], _, [r, s], _ => exact long_main pubPoint_ok pubBeam_ok l a.1 b.1 c.1 e.1 r.1 s.1 a.2 b.2 c.2 e.2 r.2 s.2
end Go.Abs
