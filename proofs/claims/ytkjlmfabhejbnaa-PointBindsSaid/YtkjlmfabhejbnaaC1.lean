/-
  What the proofs of chapter 1's statements share: designs, read as plain data.
-/
import Derived.Test.YtkjlmfabhejbnaaRows
import Derived.Test.YtkjlmfabhejbnaaTop
import Derived.Test.YtkjlmfabhejbnaaFlat
import Derived.Test.YtkjlmfabhejbnaaP1
import Derived.Test.YtkjlmfabhejbnaaFns
import Derived.WalkKit
import Derived.ProofKit
import Derived.OpenShut
set_option linter.all false
namespace Go.Proofs.Ytkjlmfabhejbnaa
set_option maxRecDepth 100000
open Go.ChangeShapes Go.WideShapes Go.ChangeAt Go.RowKit Go.Abs

theorem own : ownKnob Try.prog.godebug = none := by kernel_rfl
theorem laidOut : laidOutB Try.prog = true := by kernel_rfl
theorem mixed : Try.prog.follows .mixedOrders = true := by kernel_rfl

theorem cells3 : Try.prog.cellsOf 3 = 1 := by kernel_rfl
theorem rInt : ReadC Try.prog 3 1 Int (fun n => [iv n]) := .int Try.underlying3 cells3
theorem encInt : EncOk Try.prog 3 1 Int (fun n => iv n) := enc_int Try.underlying3 cells3
theorem rDes : ReadC Try.prog 24 2 DesA (fun x => [iv x.hk, .list 1 (x.rows.map fun n => iv n)]) := by
  have h := ReadC.struct Try.underlying24 (by kernel_rfl) (.cons rfl rInt (.cons rfl (.slice encInt Try.underlying22 (by kernel_rfl)) .nil))
  exact h.map (fun _ => rfl) fun x => ⟨⟨x.1, x.2.1⟩, rfl⟩
theorem readDes {H : Type} {enc : TypeId × Value → H} {W : World} {r : Reach} {b0 : Nat} {v : Value} {d : DataW H} {p : List MemPlace} (hv : Value.okWide Try.prog W r b0 24 v) (h : DataW.Trod enc Try.prog W 0 (fun _ => true) true 24 v d p) :
    ∃ x : DesA, RelI (fun b => b < W.heap.size) W v x.av := rDes.top (.inl ⟨_, Try.underlying24⟩) hv h
end Go.Proofs.Ytkjlmfabhejbnaa
