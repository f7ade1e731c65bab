/-
  The document's examples: known() is true, by the kernel; two calls are looked up.
-/
import Derived.Test.YtbmihapnaclidaaKnA
import Derived.Test.YtbmihapnaclidaaKnB
import Derived.Test.YtbmihapnaclidaaMemo
set_option linter.all false
namespace Go.Abs
set_option maxRecDepth 100000
set_option maxHeartbeats 0
def knownT : Memo := [((24, [.agg [.int .i64 60, .int .i64 1, .list 2 [.agg [.int .i64 30, .int .i64 70]], .int .i64 300000], .list 1 [.int .i64 20, .int .i64 30, .int .i64 50, .int .i64 60], .agg [.int .i64 2100, .int .i64 1], .int .i64 2]),
    (.tuple [.list 1 [.int .i64 0, .int .i64 2], .agg [.int .i64 2000, .int .i64 1], .int .i64 0], [])),
  ((44, [.agg [.int .i64 100000, .int .i64 500, .int .i64 201, .int .i64 100000, .int .i64 40, .int .i64 60], .list 1 [.int .i64 60, .int .i64 80, .int .i64 100]]),
    (.tuple [.own 2 [.agg [.int .i64 200, .int .i64 80], .agg [.int .i64 66, .int .i64 60]], .int .i64 0, .int .i64 0], []))]
theorem known_ok : lim F 13 [] = some (.bool true, []) := by
  refine lim_memo (n := 60) (m := 60) (t := knownT) rfl (fun x hx => ?_) (by kernel_rfl)
  simp only [knownT, List.mem_cons, List.not_mem_nil, or_false] at hx
  rcases hx with rfl | rfl
  · exact knA
  · exact knB
end Go.Abs
