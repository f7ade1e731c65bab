/-
  What the proofs of chapter 6's statements share: numbers in bytes, read as plain data.
-/
import Derived.Test.YtbmihapnaclidaaC1
import Derived.Test.YtbmihapnaclidaaFlat
set_option linter.all false
namespace Go.Proofs.Ytbmihapnaclidaa
set_option maxRecDepth 100000
open Go.ChangeShapes Go.WideShapes Go.ChangeAt Go.RowKit Go.Abs

theorem rByte : ReadC Try.prog 5 1 (Fin 256) (fun n => [.int .u8 (n.1 : Int)]) := .small 256 Try.underlying5 (by kernel_rfl) wf_u8
theorem rU16 : ReadC Try.prog 97 1 (Fin 65536) (fun n => [.int .u16 (n.1 : Int)]) := .small 65536 Try.underlying97 (by kernel_rfl) wf_u16
theorem rU32 : ReadC Try.prog 100 1 (Fin 4294967296) (fun n => [.int .u32 (n.1 : Int)]) := .small 4294967296 Try.underlying100 (by kernel_rfl) wf_u32
theorem rL2 : ReadC Try.prog 125 2 (Arr (Fin 4294967296) 2) (fun x => x.1.flatMap fun n => [.int .u32 (n.1 : Int)]) := .array Try.underlying125 rU32 (by kernel_rfl) rfl
theorem rV6 : ReadC Try.prog 110 6 (Arr (Fin 256) 6) (fun x => x.1.flatMap fun n => [.int .u8 (n.1 : Int)]) := .array Try.underlying110 rByte (by kernel_rfl) rfl
theorem rT4 : ReadC Try.prog 126 4 (Arr (Fin 65536) 4) (fun x => x.1.flatMap fun n => [.int .u16 (n.1 : Int)]) := .array Try.underlying126 rU16 (by kernel_rfl) rfl
theorem readL2 {H : Type} {enc : TypeId × Value → H} {W : World} {r : Reach} {b0 : Nat} {v : Value} {d : DataW H} {p : List MemPlace} (hv : Value.okWide Try.prog W r b0 125 v) (h : DataW.Trod enc Try.prog W 0 (fun _ => true) true 125 v d p) :
    ∃ x : Arr (Fin 4294967296) 2, RelI (fun b => b < W.heap.size) W v (.agg (x.1.flatMap fun n => [.int .u32 (n.1 : Int)])) := rL2.top (.inr ⟨_, _, Try.underlying125⟩) hv h
theorem readV6 {H : Type} {enc : TypeId × Value → H} {W : World} {r : Reach} {b0 : Nat} {v : Value} {d : DataW H} {p : List MemPlace} (hv : Value.okWide Try.prog W r b0 110 v) (h : DataW.Trod enc Try.prog W 0 (fun _ => true) true 110 v d p) :
    ∃ x : Arr (Fin 256) 6, RelI (fun b => b < W.heap.size) W v (.agg (x.1.flatMap fun n => [.int .u8 (n.1 : Int)])) := rV6.top (.inr ⟨_, _, Try.underlying110⟩) hv h
theorem readT4 {H : Type} {enc : TypeId × Value → H} {W : World} {r : Reach} {b0 : Nat} {v : Value} {d : DataW H} {p : List MemPlace} (hv : Value.okWide Try.prog W r b0 126 v) (h : DataW.Trod enc Try.prog W 0 (fun _ => true) true 126 v d p) :
    ∃ x : Arr (Fin 65536) 4, RelI (fun b => b < W.heap.size) W v (.agg (x.1.flatMap fun n => [.int .u16 (n.1 : Int)])) := rT4.top (.inr ⟨_, _, Try.underlying126⟩) hv h
end Go.Proofs.Ytbmihapnaclidaa
