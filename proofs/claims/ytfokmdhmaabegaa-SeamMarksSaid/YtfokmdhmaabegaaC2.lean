/-
  What the proofs of chapter 7's statements share: arguments read as plain data.
-/
import Derived.Test.YtfokmdhmaabegaaC1
import Derived.Test.YtfokmdhmaabegaaS5
set_option linter.all false
namespace Go.Proofs.Ytfokmdhmaabegaa
set_option maxRecDepth 100000
open Go.ChangeShapes Go.WideShapes Go.ChangeAt Go.RowKit Go.Abs

/-- two lengths with marks, as they are read -/
theorem readPair {H : Type} {enc : TypeId × Value → H} {W : World} {r : Reach} {b0 : Nat} {v : Value} {d : DataW H} {p : List MemPlace} (hv : Value.okWide Try.prog W r b0 25 v) (h : DataW.Trod enc Try.prog W 0 (fun _ => true) true 25 v d p) :
    ∃ x : PairA, RelI (fun b => b < W.heap.size) W v x.av := by
  obtain ⟨v0, v1, v2, y0, y1, y2, n, rfl, _, _, h0, h1, h2⟩ := Joins.open_agg3 Try.underlying25 (by kernel_rfl) cells25 hv h
  obtain ⟨u0, l0, e0, r0⟩ := slice_read encPart Try.underlying22 h0
  obtain ⟨u1, l1, e1, r1⟩ := slice_read encPart Try.underlying22 h1
  obtain ⟨u2, l2, e2, r2⟩ := slice_read encInt Try.underlying23 h2
  simp only [List.cons.injEq, and_true] at e0 e1 e2
  subst e0; subst e1; subst e2
  refine ⟨⟨l0, l1, l2⟩, .agg _ _ rfl fun i v c hi hc => ?_⟩
  match i with
  | 0 => simp at hi hc; subst hi; subst hc; exact r0
  | 1 => simp at hi hc; subst hi; subst hc; exact r1
  | 2 => simp at hi hc; subst hi; subst hc; exact r2
  | i + 3 => simp at hi


/-- a slice, as it is read -/
theorem readSlice {H : Type} {enc : TypeId × Value → H} {W : World} {r : Reach} {b0 : Nat} {t e : TypeId} {sz : Nat} {α : Type} {en : α → AV} (hE : EncOk Try.prog e sz α en) (ht : Try.prog.underlying t = some (.slice e)) {v : Value} {d : DataW H} {p : List MemPlace}
    (hv : Value.okWide Try.prog W r b0 t v) (h : DataW.Trod enc Try.prog W 0 (fun _ => true) true t v d p) : ∃ x : List α, RelI (fun b => b < W.heap.size) W v (.list sz (x.map en)) := by
  obtain ⟨n, hn⟩ := h
  obtain ⟨u, l, e0, hr⟩ := slice_read hE ht hn
  have hc : v.cells.toList = [v] := by
    simp only [Value.okWide, ht] at hv
    cases v <;> first | rfl | (simp [Cell.okWide, Cell.ok, ht] at hv)
  rw [hc] at e0
  simp only [List.cons.injEq, and_true] at e0
  subst e0
  exact ⟨l, hr⟩
end Go.Proofs.Ytfokmdhmaabegaa
