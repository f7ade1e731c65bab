/-
  The document's examples: floats, by the kernel.
-/
import Derived.Test.YtkjlmfabhejbnaaKL
import Derived.KernelRfl
set_option linter.all false
namespace Go.Abs
set_option maxRecDepth 100000
set_option maxHeartbeats 0
def fwD : List FloatT := [⟨0, 0, 3, true⟩, ⟨0, 3, 3, false⟩, ⟨1, 0, 3, false⟩, ⟨1, 3, 3, true⟩, ⟨2, 0, 1000, false⟩, ⟨3, 0, 1, true⟩, ⟨3, 1, 1, false⟩, ⟨3, 2, 1, true⟩, ⟨3, 3, 1, false⟩, ⟨3, 4, 1, true⟩, ⟨3, 5, 1, false⟩]
theorem fwF : lim F 61 [.agg [iv 6, .list 1 [iv 7, iv 56, iv 0, iv 21]], iv 1] = some (.func 94 [.iptr (.agg [iv 4]) 0, .iptr (.agg [.meth 92 (.agg [iv 6, .list 1 [iv 7, iv 56, iv 0, iv 21]])]) 0, .iptr (.agg [iv 1]) 0], []) := lim_of_eval (n := 40) (by kernel_rfl)
theorem fwG : lim F 94 [.ylog none [], .iptr (.agg [iv 4]) 0, .iptr (.agg [.meth 92 (.agg [iv 6, .list 1 [iv 7, iv 56, iv 0, iv 21]])]) 0, .iptr (.agg [iv 1]) 0] = some (.tuple [], [.ylog none (fwD.map fun f => [f.av])]) := lim_of_eval (n := 60) (by kernel_rfl)
theorem fwK : lim F 94 [.ylog (some 0) (fwD.map fun f => [f.av]), .iptr (.agg [iv 4]) 0, .iptr (.agg [.meth 92 (.agg [iv 6, .list 1 [iv 7, iv 56, iv 0, iv 21]])]) 0, .iptr (.agg [iv 1]) 0] = some (.tuple [], [.ylog (some 0) []]) := lim_of_eval (n := 60) (by kernel_rfl)
end Go.Abs

namespace Go.Abs
set_option maxRecDepth 100000
set_option maxHeartbeats 0
def fhD : List FloatT := [⟨1, 0, 2, false⟩, ⟨3, 0, 2, true⟩, ⟨0, 1, 1, true⟩, ⟨1, 1, 3, false⟩, ⟨1, 2, 2, false⟩, ⟨3, 2, 2, true⟩, ⟨1, 3, 1, true⟩, ⟨2, 3, 3, false⟩, ⟨0, 4, 1, false⟩, ⟨1, 4, 1, true⟩, ⟨2, 4, 1, false⟩, ⟨3, 4, 1, true⟩, ⟨1, 5, 1, true⟩, ⟨2, 5, 3, false⟩]
theorem fhF : lim F 61 [.agg [iv 6, .list 1 [iv 7, iv 56, iv 0, iv 21]], iv 2] = some (.func 94 [.iptr (.agg [iv 6]) 0, .iptr (.agg [.meth 93 (.agg [iv 6, .list 1 [iv 7, iv 56, iv 0, iv 21]])]) 0, .iptr (.agg [iv 2]) 0], []) := lim_of_eval (n := 40) (by kernel_rfl)
theorem fhG : lim F 94 [.ylog none [], .iptr (.agg [iv 6]) 0, .iptr (.agg [.meth 93 (.agg [iv 6, .list 1 [iv 7, iv 56, iv 0, iv 21]])]) 0, .iptr (.agg [iv 2]) 0] = some (.tuple [], [.ylog none (fhD.map fun f => [f.av])]) := lim_of_eval (n := 60) (by kernel_rfl)
theorem fhK : lim F 94 [.ylog (some 0) (fhD.map fun f => [f.av]), .iptr (.agg [iv 6]) 0, .iptr (.agg [.meth 93 (.agg [iv 6, .list 1 [iv 7, iv 56, iv 0, iv 21]])]) 0, .iptr (.agg [iv 2]) 0] = some (.tuple [], [.ylog (some 0) []]) := lim_of_eval (n := 60) (by kernel_rfl)
end Go.Abs
