/-
  What the proofs of chapter 6's statements share: shops of wheels, read as plain data.
-/
import Derived.Test.YtbmihapnaclidaaC2
import Derived.Test.YtbmihapnaclidaaLNearests
set_option linter.all false
namespace Go.Proofs.Ytbmihapnaclidaa
set_option maxRecDepth 100000
open Go.ChangeShapes Go.WideShapes Go.ChangeAt Go.RowKit Go.Abs

theorem rRatio : ReadC Try.prog 30 2 (Int × Int) (fun x => [iv x.1, iv x.2]) := by
  have h := ReadC.struct Try.underlying30 (by kernel_rfl) (.cons rfl rInt (.cons rfl rInt .nil))
  exact h.map (fun _ => rfl) fun x => ⟨⟨x.1, x.2.1⟩, rfl⟩
theorem rShop : ReadC Try.prog 42 4 ShopA (fun x => [.list 1 (x.ws.map fun n => iv n), iv x.wn, iv x.wd, iv x.p]) := by
  have h := ReadC.struct Try.underlying42 (by kernel_rfl) (.cons rfl (.slice encInt Try.underlying40 (by kernel_rfl)) (.cons rfl rRatio (.cons rfl rInt .nil)))
  exact h.map (fun _ => rfl) fun x => ⟨⟨x.1, x.2.1.1, x.2.1.2, x.2.2.1⟩, rfl⟩
theorem readShop {H : Type} {enc : TypeId × Value → H} {W : World} {r : Reach} {b0 : Nat} {v : Value} {d : DataW H} {p : List MemPlace} (hv : Value.okWide Try.prog W r b0 42 v) (h : DataW.Trod enc Try.prog W 0 (fun _ => true) true 42 v d p) :
    ∃ x : ShopA, RelI (fun b => b < W.heap.size) W v x.av := rShop.top (.inl ⟨_, Try.underlying42⟩) hv h
end Go.Proofs.Ytbmihapnaclidaa
