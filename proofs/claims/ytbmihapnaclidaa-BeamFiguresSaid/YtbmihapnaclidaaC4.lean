/-
  What the proofs of chapter 6's statements share: notes about cloth, read as plain data.
-/
import Derived.Test.YtbmihapnaclidaaC2
import Derived.Test.YtbmihapnaclidaaLFigures
set_option linter.all false
namespace Go.Proofs.Ytbmihapnaclidaa
set_option maxRecDepth 100000
open Go.ChangeShapes Go.WideShapes Go.ChangeAt Go.RowKit Go.Abs

theorem rNote : ReadC Try.prog 65 3 NoteA (fun x => [iv x.p, iv x.lo, iv x.hi]) := by
  have h := ReadC.struct Try.underlying65 (by kernel_rfl) (.cons rfl rInt (.cons rfl rSpan .nil))
  exact h.map (fun _ => rfl) fun x => ⟨⟨x.1, x.2.1.1, x.2.1.2⟩, rfl⟩
theorem encNote : EncOk Try.prog 65 3 NoteA NoteA.av := rNote.enc (by omega) (fun _ => rfl) fun x a ha => by
  simp only [List.mem_cons, List.not_mem_nil, or_false] at ha
  rcases ha with rfl | rfl | rfl <;> rfl
theorem rCloth : ReadC Try.prog 55 4 ClothA (fun x => [iv x.lo, iv x.hi, iv x.p, .list 3 (x.l.map NoteA.av)]) := by
  have h := ReadC.struct Try.underlying55 (by kernel_rfl) (.cons rfl rSpan (.cons rfl rInt (.cons rfl (.slice encNote Try.underlying53 (by kernel_rfl)) .nil)))
  exact h.map (fun _ => rfl) fun x => ⟨⟨x.1.1, x.1.2, x.2.1, x.2.2.1⟩, rfl⟩
theorem readCloth {H : Type} {enc : TypeId × Value → H} {W : World} {r : Reach} {b0 : Nat} {v : Value} {d : DataW H} {p : List MemPlace} (hv : Value.okWide Try.prog W r b0 55 v) (h : DataW.Trod enc Try.prog W 0 (fun _ => true) true 55 v d p) :
    ∃ x : ClothA, RelI (fun b => b < W.heap.size) W v x.av := rCloth.top (.inl ⟨_, Try.underlying55⟩) hv h
end Go.Proofs.Ytbmihapnaclidaa
