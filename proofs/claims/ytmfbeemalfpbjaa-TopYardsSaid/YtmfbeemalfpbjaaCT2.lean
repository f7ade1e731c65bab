/-
  What the proofs of this seat's statements share: arrays of bytes, read as plain data.
-/
import Derived.Test.YtmfbeemalfpbjaaCT1
import Derived.Test.YtmfbeemalfpbjaaLYardsT
set_option linter.all false
namespace Go.Proofs.Ytmfbeemalfpbjaa
set_option maxRecDepth 100000
open Go.ChangeShapes Go.WideShapes Go.ChangeAt Go.RowKit Go.Abs

theorem rW4 : ReadC Try.prog 53 4 (Arr (Fin 256) 4) (fun x => x.1.flatMap fun n => [.int .u8 (n.1 : Int)]) := .array Try.underlying53 rByte (by kernel_rfl) rfl
theorem rC4 : ReadC Try.prog 54 8 (Arr (Fin 256 × Fin 256) 4) (fun x => x.1.flatMap fun n => [.int .u8 (n.1.1 : Int), .int .u8 (n.2.1 : Int)]) := .array Try.underlying54 rTwo (by kernel_rfl) rfl
theorem readW4 {H : Type} {enc : TypeId × Value → H} {W : World} {r : Reach} {b0 : Nat} {v : Value} {d : DataW H} {p : List MemPlace} (hv : Value.okWide Try.prog W r b0 53 v) (h : DataW.Trod enc Try.prog W 0 (fun _ => true) true 53 v d p) :
    ∃ x : Arr (Fin 256) 4, RelI (fun b => b < W.heap.size) W v (.agg (x.1.flatMap fun n => [.int .u8 (n.1 : Int)])) := rW4.top (.inr ⟨_, _, Try.underlying53⟩) hv h
theorem readC4 {H : Type} {enc : TypeId × Value → H} {W : World} {r : Reach} {b0 : Nat} {v : Value} {d : DataW H} {p : List MemPlace} (hv : Value.okWide Try.prog W r b0 54 v) (h : DataW.Trod enc Try.prog W 0 (fun _ => true) true 54 v d p) :
    ∃ x : Arr (Fin 256 × Fin 256) 4, RelI (fun b => b < W.heap.size) W v (.agg (x.1.flatMap fun n => [.int .u8 (n.1.1 : Int), .int .u8 (n.2.1 : Int)])) := rC4.top (.inr ⟨_, _, Try.underlying54⟩) hv h
end Go.Proofs.Ytmfbeemalfpbjaa
