/-
  The document's examples: known() is true, by the kernel; calls are looked up.
-/
import Derived.Test.YtkjlmfabhejbnaaKnT
set_option linter.all false
namespace Go.Abs
set_option maxRecDepth 100000
set_option maxHeartbeats 0
theorem least_known : lim F 33 [.agg [iv 6, .list 1 [iv 21, iv 42]]] = some (.tuple [iv 2, iv 2, iv 0], []) := lim_of_eval (n := 60) (by kernel_rfl)
theorem shift_known : lim F 47 [.agg [iv 6, .list 1 [iv 21, iv 42]], iv 0, iv 1] = some (.tuple [.agg [iv 6, .own 1 [iv 42, iv 21]], iv 0], []) := lim_of_eval (n := 60) (by kernel_rfl)
theorem reflect_known : lim F 55 [.agg [iv 4, .list 1 [iv 3]]] = some (.tuple [.agg [iv 6, .own 1 [iv 35]], iv 0], []) := lim_of_eval (n := 60) (by kernel_rfl)
theorem lay_known : lim F 42 [.agg [iv 2, .list 1 [iv 1, iv 2]], .agg [iv 4, .list 1 [iv 15, iv 15]], .agg [iv 4, .list 1 [iv 6, iv 6]]] = some (.tuple [.agg [iv 4, .own 1 [iv 7, iv 14]], iv 0], []) := lim_of_eval (n := 60) (by kernel_rfl)
def knownU : Memo := ((27, [.agg [iv 6, .list 1 [iv 7, iv 56, iv 0, iv 21]], .list 1 [iv 0, iv 0, iv 0, iv 0], iv 2]), (.tuple [.agg [iv 6, .own 1 [iv 11, iv 25, iv 9, iv 21]], iv 6, iv 0], [])) ::
  ((27, [.agg [iv 6, .list 1 [iv 7, iv 56, iv 0, iv 21]], .list 1 [iv 0, iv 0, iv 63, iv 0], iv 2]), (.tuple [.agg [iv 0, .own 1 []], iv 0, iv 9], [])) ::
  ((33, [.agg [iv 6, .list 1 [iv 21, iv 42]]]), (.tuple [iv 2, iv 2, iv 0], [])) ::
  ((47, [.agg [iv 6, .list 1 [iv 21, iv 42]], iv 0, iv 1]), (.tuple [.agg [iv 6, .own 1 [iv 42, iv 21]], iv 0], [])) ::
  ((55, [.agg [iv 4, .list 1 [iv 3]]]), (.tuple [.agg [iv 6, .own 1 [iv 35]], iv 0], [])) ::
  ((42, [.agg [iv 2, .list 1 [iv 1, iv 2]], .agg [iv 4, .list 1 [iv 15, iv 15]], .agg [iv 4, .list 1 [iv 6, iv 6]]]), (.tuple [.agg [iv 4, .own 1 [iv 7, iv 14]], iv 0], [])) :: knownT
theorem known_ok : lim F 15 [] = some (.bool true, []) := by
  refine lim_memo (n := 60) (m := 60) (t := knownU) rfl (fun x hx => ?_) (by kernel_rfl)
  unfold knownU at hx
  rcases List.mem_cons.1 hx with rfl | hx
  · exact bind_known
  rcases List.mem_cons.1 hx with rfl | hx
  · exact never_known
  rcases List.mem_cons.1 hx with rfl | hx
  · exact least_known
  rcases List.mem_cons.1 hx with rfl | hx
  · exact shift_known
  rcases List.mem_cons.1 hx with rfl | hx
  · exact reflect_known
  rcases List.mem_cons.1 hx with rfl | hx
  · exact lay_known
  exact knownT_ok x hx
end Go.Abs
