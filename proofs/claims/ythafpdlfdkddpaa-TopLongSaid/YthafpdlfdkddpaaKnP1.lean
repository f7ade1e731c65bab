/-
  The document's examples of chapter 1, by the kernel; rows that are bound are looked up.
-/
import Derived.Test.YthafpdlfdkddpaaKB
set_option linter.all false
namespace Go.Abs
set_option maxRecDepth 100000
set_option maxHeartbeats 0
def bindM : Memo := [((45, bA7), bR7), ((45, bA56), bR56), ((45, bA0), bR0), ((45, bA21), bR21)]
theorem bindM_ok (x) (hx : x ∈ bindM) : lim F x.1.1 x.1.2 = some x.2 := by
  simp only [bindM, List.mem_cons, List.not_mem_nil, or_false] at hx
  rcases hx with rfl | rfl | rfl | rfl
  · exact bind7
  · exact bind56
  · exact bind0
  · exact bind21
theorem pubBind_ok : lim F 25 [.agg [iv 6, .list 1 [iv 7, iv 56, iv 0, iv 21]], .list 1 [iv 0, iv 0, iv 0, iv 0], iv 2] = some (.tuple [.agg [iv 6, .own 1 [iv 11, iv 25, iv 9, iv 21]], iv 6, iv 0], []) := lim_memo (n := 60) (m := 60) (t := bindM) rfl bindM_ok (by kernel_rfl)
end Go.Abs
