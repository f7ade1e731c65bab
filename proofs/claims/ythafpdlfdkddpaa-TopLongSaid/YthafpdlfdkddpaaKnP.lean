/-
  The document's examples of chapter 1, by the kernel; rows that are bound are looked up.
-/
import Derived.Test.YthafpdlfdkddpaaKnP1
import Derived.Test.YthafpdlfdkddpaaKnP2
set_option linter.all false
namespace Go.Abs
set_option maxRecDepth 100000
set_option maxHeartbeats 0
def pointM : Memo := [((25, [.agg [iv 6, .list 1 [iv 7, iv 56, iv 0, iv 21]], .list 1 [iv 0, iv 0, iv 0, iv 0], iv 2]), (.tuple [.agg [iv 6, .own 1 [iv 11, iv 25, iv 9, iv 21]], iv 6, iv 0], [])),
  ((26, [.agg [iv 6, .list 1 [iv 7, iv 56, iv 0, iv 21]], iv 1, iv 3]), (.tuple [.own 4 [.agg [iv 2, iv 0, iv 1000, .bool false]], iv 0], [])),
  ((27, [.agg [iv 6, .list 1 [iv 21, iv 42]], iv 0, iv 1]), (.tuple [.agg [iv 6, .own 1 [iv 42, iv 21]], iv 0], []))]
theorem pubPoint_ok : lim F 13 [] = some (.bool true, []) := by
  refine lim_memo (n := 60) (m := 60) (t := pointM) rfl (fun x hx => ?_) (by kernel_rfl)
  simp only [pointM, List.mem_cons, List.not_mem_nil, or_false] at hx
  rcases hx with rfl | rfl | rfl
  · exact pubBind_ok
  · exact pubFloats_ok
  · exact pubShift_ok
end Go.Abs
