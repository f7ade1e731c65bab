/-
  What the proofs of chapter 6's statements share: three numbers, and lists of three, read as plain data.
-/
import Derived.Test.YtbmihapnaclidaaC5
import Derived.Test.YtbmihapnaclidaaLTruth
set_option linter.all false
namespace Go.Proofs.Ytbmihapnaclidaa
set_option maxRecDepth 100000
open Go.ChangeShapes Go.WideShapes Go.ChangeAt Go.RowKit Go.Abs

theorem cells122 : Try.prog.cellsOf 122 = 3 := by kernel_rfl
theorem rThree : ReadC Try.prog 122 3 ThreeB (fun x => [.int .u16 (x.1.1 : Int), .int .u16 (x.2.1.1 : Int), .int .u16 (x.2.2.1 : Int)]) := by
  have h := ReadC.array Try.underlying122 rU16 (m := 3) cells122 rfl
  exact h.map (fun _ => rfl) fun x => by
    obtain ⟨l, hl⟩ := x
    match l, hl with
    | [a, b, c], _ => exact ⟨(a, b, c), rfl⟩
theorem encThree : EncOk Try.prog 122 3 ThreeB ThreeB.av := rThree.enc (by omega) (fun _ => rfl) fun x a ha => by
  simp only [List.mem_cons, List.not_mem_nil, or_false] at ha
  rcases ha with rfl | rfl | rfl <;> rfl
theorem rV3 : ReadC Try.prog 119 3 (Arr (Fin 256) 3) (fun x => x.1.flatMap fun n => [.int .u8 (n.1 : Int)]) := .array Try.underlying119 rByte (by kernel_rfl) rfl
theorem readV3 {H : Type} {enc : TypeId × Value → H} {W : World} {r : Reach} {b0 : Nat} {v : Value} {d : DataW H} {p : List MemPlace} (hv : Value.okWide Try.prog W r b0 119 v) (h : DataW.Trod enc Try.prog W 0 (fun _ => true) true 119 v d p) :
    ∃ x : Arr (Fin 256) 3, RelI (fun b => b < W.heap.size) W v (.agg (x.1.flatMap fun n => [.int .u8 (n.1 : Int)])) := rV3.top (.inr ⟨_, _, Try.underlying119⟩) hv h
end Go.Proofs.Ytbmihapnaclidaa
