/-
 Several texts: KnP1, KnP2, KnP.
-/
import Derived.Test.YthafpdlfdkddpaaDoorKB
import Derived.Test.YthafpdlfdkddpaaDoorKnS
import Derived.Test.YthafpdlfdkddpaaDoorFns
import Derived.Test.YthafpdlfdkddpaaDoorK
import Derived.KernelRfl
set_option linter.all false
namespace Go.Abs
set_option maxRecDepth 100000
set_option maxHeartbeats 0
def bindM : Memo := [((48, bA7), bR7), ((48, bA56), bR56), ((48, bA0), bR0), ((48, bA21), bR21)]
theorem bindM_ok (x) (hx : x ∈ bindM) : lim F x.1.1 x.1.2 = some x.2 := by
 simp only [bindM, List.mem_cons, List.not_mem_nil, or_false] at hx
 rcases hx with rfl | rfl | rfl | rfl
 ·exact bind7
 ·exact bind56
 ·exact bind0
 ·exact bind21
theorem pubBind_ok : lim F 34 [.agg [iv 6, .list 1 [iv 7, iv 56, iv 0, iv 21]], .list 1 [iv 0, iv 0, iv 0, iv 0], iv 2] = some (.tuple [.agg [iv 6, .own 1 [iv 11, iv 25, iv 9, iv 21]], iv 6, iv 0], []) := lim_memo (n := 60) (m := 60) (t := bindM) rfl bindM_ok (by kernel_rfl)
end Go.Abs

set_option linter.all false
namespace Go.Abs
set_option maxRecDepth 100000
set_option maxHeartbeats 0
theorem pubFloats_ok : lim F 35 [.agg [iv 6, .list 1 [iv 7, iv 56, iv 0, iv 21]], iv 1, iv 3] = some (.tuple [.own 4 [.agg [iv 2, iv 0, iv 1000, .bool false]], iv 0], []) := lim_of_eval (n := 60) (by kernel_rfl)
theorem pubShift_ok : lim F 36 [.agg [iv 6, .list 1 [iv 21, iv 42]], iv 0, iv 1] = some (.tuple [.agg [iv 6, .own 1 [iv 42, iv 21]], iv 0], []) := lim_of_eval (n := 60) (by kernel_rfl)
end Go.Abs

set_option linter.all false
namespace Go.Abs
set_option maxRecDepth 100000
set_option maxHeartbeats 0
def pointM : Memo := [((34, [.agg [iv 6, .list 1 [iv 7, iv 56, iv 0, iv 21]], .list 1 [iv 0, iv 0, iv 0, iv 0], iv 2]), (.tuple [.agg [iv 6, .own 1 [iv 11, iv 25, iv 9, iv 21]], iv 6, iv 0], [])),
 ((35, [.agg [iv 6, .list 1 [iv 7, iv 56, iv 0, iv 21]], iv 1, iv 3]), (.tuple [.own 4 [.agg [iv 2, iv 0, iv 1000, .bool false]], iv 0], [])),
 ((36, [.agg [iv 6, .list 1 [iv 21, iv 42]], iv 0, iv 1]), (.tuple [.agg [iv 6, .own 1 [iv 42, iv 21]], iv 0], []))]
theorem pubPoint_ok : lim F 15 [] = some (.bool true, []) := by
 refine lim_memo (n := 60) (m := 60) (t := pointM) rfl (fun x hx => ?_) (by kernel_rfl)
 simp only [pointM, List.mem_cons, List.not_mem_nil, or_false] at hx
 rcases hx with rfl | rfl | rfl
 ·exact pubBind_ok
 ·exact pubFloats_ok
 ·exact pubShift_ok
end Go.Abs
