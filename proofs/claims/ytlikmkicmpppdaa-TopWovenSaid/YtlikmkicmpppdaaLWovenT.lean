/-
 TopWoven: what it looks at is so, for all rows, bytes and lengths.
-/
import Derived.Test.YtlikmkicmpppdaaLWoven
import Derived.Test.YtlikmkicmpppdaaKnC
import Derived.Test.YtlikmkicmpppdaaKnU
set_option linter.all false
namespace Go.Abs
set_option maxRecDepth 10000
theorem u16_wf {n : Int} (h : (Lit.int .u16 n).wf = true) : ∃ m : Nat, m < 65536 ∧ n = (m : Int) := by
 obtain ⟨h1, h2⟩ := wf_u16 n h;exact ⟨n.toNat, by omega, by omega⟩
theorem topWoven_ok (l : List WordB) (v : Arr (Fin 256) 4) (w : Int) (hw : ∃ m : Nat, m < 65536 ∧ w = (m : Int)) : lim F 3 [.list 1 (wordsV l), .agg (v.1.flatMap fun n => [.int .u8 (n.1 : Int)]), .int .u16 w] = some (.bool true, []) := by
 obtain ⟨vl, hv⟩ := v;obtain ⟨m, hm, rfl⟩ := hw
 match vl, hv with
 | [a, b, c, e], _ => exact woven_main pubChain_ok pubBeam_ok l a.1 b.1 c.1 e.1 a.2 b.2 c.2 e.2 m hm
end Go.Abs
