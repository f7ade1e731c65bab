/-
  What the proofs of chapter 6's statements share: more arguments read as plain data.
-/
import Derived.Test.YtbmihapnaclidaaC1
import Derived.Test.YtbmihapnaclidaaFlat
set_option linter.all false
namespace Go.Proofs.Ytbmihapnaclidaa
set_option maxRecDepth 100000
open Go.ChangeShapes Go.WideShapes Go.ChangeAt Go.RowKit Go.Abs

theorem rInt : ReadC Try.prog 3 1 Int (fun n => [iv n]) := .int Try.underlying3 cells3
theorem rSpan : ReadC Try.prog 52 2 (Int × Int) (fun x => [iv x.1, iv x.2]) := by
  have h := ReadC.struct Try.underlying52 (by kernel_rfl) (.cons rfl rInt (.cons rfl rInt .nil))
  exact h.map (fun _ => rfl) fun x => ⟨(x.1, x.2.1), rfl⟩
end Go.Proofs.Ytbmihapnaclidaa
