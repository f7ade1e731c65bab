/-
  One of the document's examples: the longest floats.
-/
import Derived.Test.YtkjlmfabhejbnaaKF
set_option linter.all false
namespace Go.Abs
set_option maxRecDepth 100000
theorem longest_known : lim F 19 [.agg [iv 6, .list 1 [iv 7, iv 56, iv 0, iv 21]]] = some (.tuple [.agg [iv 1000, iv 3, iv 2, iv 3], iv 0], []) := by
  have hc : lim F 17 [.agg [iv 6, .list 1 [iv 7, iv 56, iv 0, iv 21]]] = some (iv 0, []) := lim_of_eval (n := 40) (by kernel_rfl)
  have h := longest_of 6 4 [iv 7, iv 56, iv 0, iv 21] fwD fhD hc fwF fhF fwG fhG fwK fhK
  rw [show mxF false fwD = 1000 from rfl, show mxF true fwD = 3 from rfl, show mxF true fhD = 2 from rfl, show mxF false fhD = 3 from rfl] at h
  exact h
end Go.Abs
