/-
 TopOutMoved: what it looks at is so, for all bytes.
-/
import Derived.Test.YtckchbknbchknaaLOutMoved
import Derived.Test.YtckchbknbchknaaKnE
import Derived.Test.YtckchbknbchknaaFlat
set_option linter.all false
namespace Go.Abs
set_option maxRecDepth 10000
theorem u8_wf {n : Int} (h : (Lit.int .u8 n).wf = true) : 0 ≤ n ∧ n ≤ 255 := by
 simp [Lit.wf, IntKind.min, IntKind.max, IntKind.signed, IntKind.bits] at h;omega
theorem topOutMoved_ok (x : List (Fin 256)) (v : Int) (hv : 0 ≤ v ∧ v ≤ 255) : lim F 3 [.list 1 (x.map fun r => .int .u8 (r.1 : Int)), .int .u8 v] = some (.bool true, []) := by
 obtain ⟨m, rfl⟩ : ∃ m : Nat, v = (m : Int) := ⟨v.toNat, by omega⟩
 exact outmoved_main armChain_ok armEye_ok x m (by omega)
end Go.Abs
