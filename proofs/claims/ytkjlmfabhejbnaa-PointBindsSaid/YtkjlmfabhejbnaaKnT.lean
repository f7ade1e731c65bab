/-
  The document's examples: known() is true, by the kernel; some calls are looked up.
-/
import Derived.Test.YtkjlmfabhejbnaaKnL
import Derived.Test.YtkjlmfabhejbnaaKnC
import Derived.Test.YtkjlmfabhejbnaaKB
import Derived.Test.YtkjlmfabhejbnaaMemo
set_option linter.all false
namespace Go.Abs
set_option maxRecDepth 100000
set_option maxHeartbeats 0
def knownT : Memo := [
  ((18, [.agg [iv 6, .list 1 [iv 7, iv 56, iv 0, iv 21]], iv 1, iv 2]), (.tuple [.own 4 [.agg [iv 0, iv 0, iv 3, .bool true], .agg [iv 0, iv 3, iv 3, .bool false], .agg [iv 1, iv 0, iv 3, .bool false], .agg [iv 1, iv 3, iv 3, .bool true], .agg [iv 2, iv 0, iv 1000, .bool false]], iv 0], [])),
  ((19, [.agg [iv 6, .list 1 [iv 7, iv 56, iv 0, iv 21]]]), (.tuple [.agg [iv 1000, iv 3, iv 2, iv 3], iv 0], [])),
  ((31, [.agg [iv 6, .list 1 [iv 7, iv 56, iv 0, iv 21]], iv 2]), (.tuple [.own 4 [.agg [iv 0, iv 0, iv 3, .bool true], .agg [iv 0, iv 3, iv 3, .bool false], .agg [iv 1, iv 0, iv 3, .bool false], .agg [iv 1, iv 3, iv 3, .bool true], .agg [iv 2, iv 0, iv 3, .bool false], .agg [iv 2, iv 3, iv 3, .bool false]], iv 0], [])),
  ((64, bA7), bR7),
  ((64, bA56), bR56),
  ((64, bA0), bR0),
  ((64, bA21), bR21),
  ((64, bA63), bR63)]
theorem knownT_ok (x) (hx : x ∈ knownT) : lim F x.1.1 x.1.2 = some x.2 := by
  simp only [knownT, List.mem_cons, List.not_mem_nil, or_false] at hx
  rcases hx with rfl | rfl | rfl | rfl | rfl | rfl | rfl | rfl
  · exact floats_known
  · exact longest_known
  · exact proof_known
  · exact bind7
  · exact bind56
  · exact bind0
  · exact bind21
  · exact bind63
theorem bind_known : lim F 27 [.agg [iv 6, .list 1 [iv 7, iv 56, iv 0, iv 21]], .list 1 [iv 0, iv 0, iv 0, iv 0], iv 2] = some (.tuple [.agg [iv 6, .own 1 [iv 11, iv 25, iv 9, iv 21]], iv 6, iv 0], []) :=
  lim_memo (n := 60) (m := 60) (t := knownT) rfl knownT_ok (by kernel_rfl)
theorem never_known : lim F 27 [.agg [iv 6, .list 1 [iv 7, iv 56, iv 0, iv 21]], .list 1 [iv 0, iv 0, iv 63, iv 0], iv 2] = some (.tuple [.agg [iv 0, .own 1 []], iv 0, iv 9], []) :=
  lim_memo (n := 60) (m := 60) (t := knownT) rfl knownT_ok (by kernel_rfl)
end Go.Abs
