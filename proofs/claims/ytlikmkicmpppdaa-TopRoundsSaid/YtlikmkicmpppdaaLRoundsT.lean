/-
 TopRounds: what it looks at is so, for all rows and bytes.
-/
import Derived.Test.YtlikmkicmpppdaaLRounds
import Derived.Test.YtlikmkicmpppdaaFlat
import Derived.Test.YtlikmkicmpppdaaKnP
import Derived.Test.YtlikmkicmpppdaaKnC
set_option linter.all false
namespace Go.Abs
set_option maxRecDepth 10000
theorem u8_wf {n : Int} (h : (Lit.int .u8 n).wf = true) : 0 ≤ n ∧ n ≤ 255 := by
 simp [Lit.wf, IntKind.min, IntKind.max, IntKind.signed, IntKind.bits] at h;omega
theorem topRounds_ok (v : Int) (hv : 0 ≤ v ∧ v ≤ 255) (l : List WordB) (w : Arr (Fin 256) 2) : lim F 6 [.int .u8 v, .list 1 (wordsV l), .agg (w.1.flatMap fun n => [.int .u8 (n.1 : Int)])] = some (.bool true, []) := by
 obtain ⟨m, rfl⟩ : ∃ m : Nat, v = (m : Int) := ⟨v.toNat, by omega⟩
 obtain ⟨wl, hw⟩ := w
 match wl, hw with
 | [a, b], _ => exact rounds_main pubPoint_ok pubChain_ok m (by omega) l a.1 b.1 a.2 b.2
end Go.Abs
