/-
 PointBound: its arguments as they are read.
-/
import Derived.Test.YtkjlmfabhejbnaaLBound
import Derived.Test.YtkjlmfabhejbnaaKnown
import Derived.Test.YtkjlmfabhejbnaaFlat
set_option linter.all false
namespace Go.Abs
theorem pointBound_ok (x : PaperB) (fixed : List (Fin 65536)) (v : Arr (Fin 256) 3) : lim F 7 [x.av, .list 1 (fixed.map fun r => .int .u16 (r.1 : Int)), .agg (v.1.flatMap fun n => [.int .u8 (n.1 : Int)])] = some (.bool true, []) := by
 obtain ⟨l, hl⟩ := v
 match l, hl with
 | [a, b, c], _ =>
  simp only [List.flatMap_cons, List.flatMap_nil, List.append_nil, List.cons_append, List.nil_append]
  exact bound_main known_ok x fixed a.1 b.1 c.1 a.2 b.2 c.2
end Go.Abs
