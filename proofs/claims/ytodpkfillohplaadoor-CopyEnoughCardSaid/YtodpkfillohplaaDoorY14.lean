/-
 Chapter 12: the tree has no more changes than were made.
-/
import Derived.Test.YtodpkfillohplaaDoorY13
set_option linter.all false
namespace Go.Abs
theorem sets_at {t : Bool} {hk : Nat} {l : List DesN} {i : Nat} {d : DesN} (h : l[i]? = some d) : (setsN t hk l).getD i [] = turnL t hk d.rows := by
 unfold setsN;rw [List.getD_eq_getElem?_getD, List.getElem?_map, h]; rfl
end Go.Abs
