/-
  What the proofs of chapter 6's statements share: rolls, read as plain data.
-/
import Derived.Test.YtbmihapnaclidaaC2
import Derived.Test.YtbmihapnaclidaaR1
set_option linter.all false
namespace Go.Proofs.Ytbmihapnaclidaa
set_option maxRecDepth 100000
open Go.ChangeShapes Go.WideShapes Go.ChangeAt Go.RowKit Go.Abs

theorem rRoll : ReadC Try.prog 82 6 RollA RollA.cells := by
  have h := ReadC.struct Try.underlying82 (by kernel_rfl) (.cons rfl rInt (.cons rfl rInt (.cons rfl rInt (.cons rfl rInt (.cons rfl rSpan .nil)))))
  exact h.map (fun _ => rfl) fun x => ⟨⟨x.1, x.2.1, x.2.2.1, x.2.2.2.1, x.2.2.2.2.1.1, x.2.2.2.2.1.2⟩, rfl⟩
theorem readRoll {H : Type} {enc : TypeId × Value → H} {W : World} {r : Reach} {b0 : Nat} {v : Value} {d : DataW H} {p : List MemPlace} (hv : Value.okWide Try.prog W r b0 82 v) (h : DataW.Trod enc Try.prog W 0 (fun _ => true) true 82 v d p) :
    ∃ x : RollA, RelI (fun b => b < W.heap.size) W v x.av := rRoll.top (.inl ⟨_, Try.underlying82⟩) hv h
end Go.Proofs.Ytbmihapnaclidaa
