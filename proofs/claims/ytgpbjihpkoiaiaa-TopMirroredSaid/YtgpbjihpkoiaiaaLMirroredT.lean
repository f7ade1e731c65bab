/-
 TopMirrored: what it looks at is so, for every loom and all bytes.
-/
import Derived.Test.YtgpbjihpkoiaiaaLMirrored
import Derived.Test.YtgpbjihpkoiaiaaKnA
import Derived.Test.YtgpbjihpkoiaiaaKnTi
import Derived.Test.YtgpbjihpkoiaiaaFlat
set_option linter.all false
namespace Go.Abs
set_option maxRecDepth 10000
theorem u8_wfM {n : Int} (h : (Lit.int .u8 n).wf = true) : 0 ≤ n ∧ n ≤ 255 := by
 simp [Lit.wf,IntKind.min,IntKind.max,IntKind.signed,IntKind.bits] at h;omega
theorem topMirrored_ok (x : Fin 256 × List (Fin 256) × List (Fin 65536) × List (Fin 256) × Unit) (v : Int) (hv : 0 ≤ v ∧ v ≤ 255) : lim F 7 [.agg [.int .u8 (x.1.1 : Int),.list 1 (x.2.1.map fun r => .int .u8 (r.1 : Int)),.list 1 (x.2.2.1.map fun r => .int .u16 (r.1 : Int)),.list 1 (x.2.2.2.1.map fun r => .int .u8 (r.1 : Int))],.int .u8 v] = some (.bool true,[]) := by
 obtain ⟨m,rfl⟩ : ∃ m : Nat,v = (m : Int) := ⟨v.toNat,by omega⟩
 exact mirrored_main armPoint_ok armTie_ok ⟨x.1,x.2.1,x.2.2.1,x.2.2.2.1⟩ m (by omega)
end Go.Abs
