/-
  What the proofs of chapter 7's statements share: lengths that are cut, read as plain data.
-/
import Derived.Test.YtfokmdhmaabegaaC1
import Derived.Test.YtfokmdhmaabegaaS20
set_option linter.all false
namespace Go.Proofs.Ytfokmdhmaabegaa
set_option maxRecDepth 100000
open Go.ChangeShapes Go.WideShapes Go.ChangeAt Go.RowKit Go.Abs

theorem cells73 : Try.prog.cellsOf 73 = 2 := by kernel_rfl
theorem encCut : EncOk Try.prog 73 2 Cut Cut.av where
  len := fun _ => rfl
  pl := fun x c hc => by
    simp only [Cut.av, AV.cells, List.mem_cons, List.not_mem_nil, or_false] at hc
    rcases hc with rfl | rfl <;> rfl
  cells := cells73
  pos := by omega
  read := fun {H enc W base sp held n cs y} h => by
    obtain ⟨y0, y1, m, _, hl, h0, h1⟩ := trod_struct2 Try.underlying73 h
    rw [cells73] at hl
    obtain ⟨c0, c1, rfl⟩ := len2 hl
    rw [cells3] at h0 h1
    obtain ⟨n0, e0, _⟩ := DataW.trod_int Try.underlying3 h0
    obtain ⟨n1, e1, _⟩ := DataW.trod_int Try.underlying3 h1
    simp only [List.drop_zero, List.take_succ_cons, List.take_zero, List.drop_succ_cons, List.cons.injEq, and_true] at e0 e1
    subst e0; subst e1
    exact ⟨⟨n0, n1⟩, rfl⟩

/-- a slice, as it is read -/
theorem readSlice {H : Type} {enc : TypeId × Value → H} {W : World} {r : Reach} {b0 : Nat} {t e : TypeId} {sz : Nat} {α : Type} {en : α → AV} (hE : EncOk Try.prog e sz α en) (ht : Try.prog.underlying t = some (.slice e)) {v : Value} {d : DataW H} {p : List MemPlace}
    (hv : Value.okWide Try.prog W r b0 t v) (h : DataW.Trod enc Try.prog W 0 (fun _ => true) true t v d p) : ∃ x : List α, RelI (fun b => b < W.heap.size) W v (.list sz (x.map en)) := by
  obtain ⟨n, hn⟩ := h
  obtain ⟨u, l, e0, hr⟩ := slice_read hE ht hn
  have hc : v.cells.toList = [v] := by
    simp only [Value.okWide, ht] at hv
    cases v <;> first | rfl | (simp [Cell.okWide, Cell.ok, ht] at hv)
  rw [hc] at e0
  simp only [List.cons.injEq, and_true] at e0
  subst e0
  exact ⟨l, hr⟩
end Go.Proofs.Ytfokmdhmaabegaa
