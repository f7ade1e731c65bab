/-
 TopRepeats: what it looks at is so, for all rows and bytes.
-/
import Derived.Test.YtgpbjihpkoiaiaaLRepeats
import Derived.Test.YtgpbjihpkoiaiaaKnP
import Derived.Test.YtgpbjihpkoiaiaaKnTi
import Derived.Test.YtgpbjihpkoiaiaaFlat
set_option linter.all false
namespace Go.Abs
set_option maxRecDepth 10000
theorem u8_wfR {n : Int} (h : (Lit.int .u8 n).wf = true) : 0 ≤ n ∧ n ≤ 255 := by
 simp [Lit.wf, IntKind.min, IntKind.max, IntKind.signed, IntKind.bits] at h;omega
theorem topRepeats_ok (l : List WordB) (q : Arr (Fin 256) 4) (v : Int) (hv : 0 ≤ v ∧ v ≤ 255) : lim F 4 [.list 1 (l.map fun r => .int .u16 (r.1 : Int)), .agg (q.1.flatMap fun n => [.int .u8 (n.1 : Int)]), .int .u8 v] = some (.bool true, []) := by
 obtain ⟨m, rfl⟩ : ∃ m : Nat, v = (m : Int) := ⟨v.toNat, by omega⟩
 obtain ⟨ql, hq⟩ := q
 match ql, hq with
 | [a, b, c, d], _ => exact repeats_main pubPoint_ok pubTie_ok pubBeam_ok l a.1 b.1 c.1 d.1 m a.2 b.2 c.2 d.2 (by omega)
end Go.Abs
