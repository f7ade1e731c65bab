/-
  What the proofs of chapter 6's statements share: more arguments read as plain data.
-/
import Derived.Test.YtbmihapnaclidaaC1
import Derived.Test.YtbmihapnaclidaaFlat
import Derived.Test.YtbmihapnaclidaaW2
set_option linter.all false
namespace Go.Proofs.Ytbmihapnaclidaa
set_option maxRecDepth 100000
open Go.ChangeShapes Go.WideShapes Go.ChangeAt Go.RowKit Go.Abs

theorem rInt : ReadC Try.prog 3 1 Int (fun n => [iv n]) := .int Try.underlying3 cells3
theorem rSpan : ReadC Try.prog 52 2 (Int × Int) (fun x => [iv x.1, iv x.2]) := by
  have h := ReadC.struct Try.underlying52 (by kernel_rfl) (.cons rfl rInt (.cons rfl rInt .nil))
  exact h.map (fun _ => rfl) fun x => ⟨(x.1, x.2.1), rfl⟩
theorem rWarp : ReadC Try.prog 72 8 WarpA (fun w => [iv w.ll, iv w.lh, iv w.sl, iv w.sh, iv w.cl, iv w.ch, iv w.wl, iv w.wh]) := by
  have h := ReadC.struct Try.underlying72 (by kernel_rfl) (.cons rfl rSpan (.cons rfl rSpan (.cons rfl rSpan (.cons rfl rSpan .nil))))
  exact h.map (fun _ => rfl) fun x => ⟨⟨x.1.1, x.1.2, x.2.1.1, x.2.1.2, x.2.2.1.1, x.2.2.1.2, x.2.2.2.1.1, x.2.2.2.1.2⟩, rfl⟩
theorem readWarp {H : Type} {enc : TypeId × Value → H} {W : World} {r : Reach} {b0 : Nat} {v : Value} {d : DataW H} {p : List MemPlace} (hv : Value.okWide Try.prog W r b0 72 v) (h : DataW.Trod enc Try.prog W 0 (fun _ => true) true 72 v d p) :
    ∃ x : WarpA, RelI (fun b => b < W.heap.size) W v x.av := rWarp.top (.inl ⟨_, Try.underlying72⟩) hv h
end Go.Proofs.Ytbmihapnaclidaa
