/-
 TopTurned: what it looks at is so, for all rows and bytes.
-/
import Derived.Test.YtlikmkicmpppdaaLTurned
import Derived.Test.YtlikmkicmpppdaaKnP
import Derived.Test.YtlikmkicmpppdaaKnC
set_option linter.all false
namespace Go.Abs
set_option maxRecDepth 10000
theorem u8_wf {n : Int} (h : (Lit.int .u8 n).wf = true) : 0 ≤ n ∧ n ≤ 255 := by
 simp [Lit.wf, IntKind.min, IntKind.max, IntKind.signed, IntKind.bits] at h;omega
theorem topTurned_ok (v : Int) (hv : 0 ≤ v ∧ v ≤ 255) (l : List WordB) : lim F 5 [.int .u8 v, .list 1 (wordsV l)] = some (.bool true, []) := by
 obtain ⟨m, rfl⟩ : ∃ m : Nat, v = (m : Int) := ⟨v.toNat, by omega⟩
 exact turned_main pubPoint_ok pubChain_ok m (by omega) l
end Go.Abs
