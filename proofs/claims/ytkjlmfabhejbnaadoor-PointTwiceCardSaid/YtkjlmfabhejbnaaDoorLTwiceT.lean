/-
 PointTwice: its arguments as they are read.
-/
import Derived.Test.YtkjlmfabhejbnaaDoorLTwice
import Derived.Test.YtkjlmfabhejbnaaDoorKnown
import Derived.Test.YtkjlmfabhejbnaaDoorFlat
set_option linter.all false
namespace Go.Abs
theorem pointTwice_ok (x : PaperB) (v w : Arr (Fin 256) 2) : lim F 4 [x.av, .agg (v.1.flatMap fun n => [.int .u8 (n.1 : Int)]), .agg (w.1.flatMap fun n => [.int .u8 (n.1 : Int)])] = some (.bool true, []) := by
 obtain ⟨l, hl⟩ := v
 obtain ⟨k, hk⟩ := w
 match l, hl, k, hk with
 | [a, b], _, [p, h], _ =>
  simp only [List.flatMap_cons, List.flatMap_nil, List.append_nil, List.cons_append, List.nil_append]
  exact twice_main known_ok x a.1 b.1 p.1 h.1 a.2 b.2 p.2 h.2
end Go.Abs
