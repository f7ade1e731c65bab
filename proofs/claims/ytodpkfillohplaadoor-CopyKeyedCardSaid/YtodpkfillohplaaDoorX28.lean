/-
 Several texts: Y14, X28.
-/
import Derived.Test.YtodpkfillohplaaDoorY13
import Derived.Test.YtodpkfillohplaaDoorX7
set_option linter.all false
namespace Go.Abs
end Go.Abs
set_option linter.all false
namespace Go.Abs
set_option maxRecDepth 10000
set_option maxHeartbeats 2000000
theorem turnL_back (t : Bool) (hk : Nat) (l : List Nat) : turnL t hk (turnL t hk l) = l := by
 unfold turnL;rw [List.map_map];have : (turnR t hk ∘ turnR t hk) = id := funext fun r => turnR_twice t hk r
 rw [this, List.map_id]
theorem first_set {l : List DesN} {hk n : Nat} (h : SetsOk l hk n) (t : Bool) : (firstN t hk n l).Ok where
 h1 := h.k1.1.1
 h24 := h.k1.1.2
 r1 := by have := h.k1.2.1; simp [firstN]; omega
 r60 := by have := h.k1.2.2; simp [firstN]; omega
 lt := fun r hr => by
  obtain ⟨y, hy, rfl⟩ := List.mem_map.1 hr;obtain ⟨q, hq, rfl⟩ := List.mem_map.1 hy;exact turnR_lt (joinAt_lt (n := n) (setsN_row h) (List.mem_range.1 hq))
end Go.Abs
