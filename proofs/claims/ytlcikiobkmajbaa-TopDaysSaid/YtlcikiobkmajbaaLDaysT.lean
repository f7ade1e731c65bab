/-
 TopDays: what it looks at is so, for all bytes.
-/
import Derived.Test.YtlcikiobkmajbaaLDays
import Derived.Test.YtlcikiobkmajbaaKnSh
import Derived.Test.YtlcikiobkmajbaaFlat
set_option linter.all false
namespace Go.Abs
set_option maxRecDepth 10000
theorem u8_wf {n : Int} (h : (Lit.int .u8 n).wf = true) : 0 ≤ n ∧ n ≤ 255 := by
 simp [Lit.wf, IntKind.min, IntKind.max, IntKind.signed, IntKind.bits] at h;omega
theorem topDays_ok (l : List (Fin 256 × Fin 256 × Fin 256)) (v : Arr (Fin 256) 4) (w : Int) (hw : 0 ≤ w ∧ w ≤ 255) : lim F 3 [.list 3 (l.map fun c => .agg [.int .u8 (c.1.1 : Int), .int .u8 (c.2.1.1 : Int), .int .u8 (c.2.2.1 : Int)]), .agg (v.1.flatMap fun n => [.int .u8 (n.1 : Int)]), .int .u8 w] = some (.bool true, []) := by
 obtain ⟨m, rfl⟩ : ∃ m : Nat, w = (m : Int) := ⟨w.toNat, by omega⟩
 obtain ⟨vl, hv⟩ := v
 match vl, hv with
 | [a, b, c, e], _ => exact days_main pubBeam_ok pubShop_ok l a.1 b.1 c.1 e.1 m a.2 b.2 c.2 e.2 (by omega)
end Go.Abs
