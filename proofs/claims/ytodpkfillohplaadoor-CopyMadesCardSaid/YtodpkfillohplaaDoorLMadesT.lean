/-
 CopyMades: its arguments as they are read.
-/
import Derived.Test.YtodpkfillohplaaDoorLMades
import Derived.Test.YtodpkfillohplaaDoorKnown
import Derived.Test.YtodpkfillohplaaDoorFlat
set_option linter.all false
namespace Go.Abs
theorem copyMades_ok (w : Int) (l : List DesA) (v : Arr (Fin 256) 2) : lim F 3 [iv w, .list 2 (l.map DesA.av), .agg (v.1.flatMap fun n => [.int .u8 (n.1 : Int)])] = some (.bool true, []) := by
 obtain ⟨k, hk⟩ := v
 match k, hk with
 | [a, b], _ =>
  simp only [List.flatMap_cons, List.flatMap_nil, List.append_nil, List.cons_append, List.nil_append]
  exact mades_main known_ok w l a.1 b.1 a.2 b.2
end Go.Abs
