/-
  What the proofs of chapter 7's statements share: more arguments read as plain data.
-/
import Derived.Test.YtfokmdhmaabegaaC2
import Derived.Test.YtfokmdhmaabegaaS10
set_option linter.all false
namespace Go.Proofs.Ytfokmdhmaabegaa
set_option maxRecDepth 100000
open Go.ChangeShapes Go.WideShapes Go.ChangeAt Go.RowKit Go.Abs

theorem cells58 : Try.prog.cellsOf 58 = 2 := by kernel_rfl

/-- a truth, as it is read -/
theorem readTruth {H : Type} {enc : TypeId × Value → H} {W : World} {r : Reach} {b0 : Nat} {v : Value} {d : DataW H} {p : List MemPlace} (hv : Value.okWide Try.prog W r b0 58 v) (h : DataW.Trod enc Try.prog W 0 (fun _ => true) true 58 v d p) :
    ∃ x : TruthA, RelI (fun b => b < W.heap.size) W v x.av := by
  obtain ⟨v0, v1, y0, y1, n, rfl, _, _, h0, h1⟩ := Joins.open_agg2 Try.underlying58 (by kernel_rfl) cells58 hv h
  obtain ⟨u0, l0, e0, r0⟩ := slice_read encInt Try.underlying23 h0
  obtain ⟨u1, l1, e1, r1⟩ := slice_read encInt Try.underlying23 h1
  simp only [List.cons.injEq, and_true] at e0 e1
  subst e0; subst e1
  refine ⟨⟨l0, l1⟩, .agg _ _ rfl fun i v c hi hc => ?_⟩
  match i with
  | 0 => simp at hi hc; subst hi; subst hc; exact r0
  | 1 => simp at hi hc; subst hi; subst hc; exact r1
  | i + 2 => simp at hi
end Go.Proofs.Ytfokmdhmaabegaa
