/-
  What the proofs of chapter 6's statements share: the types of this program, read as plain data.
-/
import Derived.Test.YtbmihapnaclidaaRows
import Derived.Test.YtbmihapnaclidaaTop
import Derived.Test.YtbmihapnaclidaaB1
import Derived.Test.YtbmihapnaclidaaFns
import Derived.WalkKit
import Derived.ProofKit
import Derived.OpenShut
set_option linter.all false
namespace Go.Proofs.Ytbmihapnaclidaa
set_option maxRecDepth 100000
open Go.ChangeShapes Go.WideShapes Go.ChangeAt Go.RowKit Go.Abs

theorem len3 {α : Type} : ∀ {l : List α}, l.length = 3 → ∃ a b c, l = [a, b, c]
  | [a, b, c], _ => ⟨a, b, c, rfl⟩
theorem len2 {α : Type} : ∀ {l : List α}, l.length = 2 → ∃ a b, l = [a, b]
  | [a, b], _ => ⟨a, b, rfl⟩

theorem own : ownKnob Try.prog.godebug = none := by kernel_rfl
theorem laidOut : laidOutB Try.prog = true := by kernel_rfl
theorem mixed : Try.prog.follows .mixedOrders = true := by kernel_rfl

theorem cells3 : Try.prog.cellsOf 3 = 1 := by kernel_rfl
theorem cells24 : Try.prog.cellsOf 24 = 4 := by kernel_rfl
theorem cells106 : Try.prog.cellsOf 106 = 2 := by kernel_rfl

theorem encInt : EncOk Try.prog 3 1 Int (fun n => iv n) := enc_int Try.underlying3 cells3

theorem encPairT : EncOk Try.prog 106 2 PairT PairT.av where
  len := fun _ => rfl
  pl := fun x c hc => by
    simp only [PairT.av, AV.cells, List.mem_cons, List.not_mem_nil, or_false] at hc
    rcases hc with rfl | rfl <;> rfl
  cells := cells106
  pos := by omega
  read := fun {H enc W base sp held n cs y} h => by
    obtain ⟨y0, y1, m, _, hl, h0, h1⟩ := trod_struct2 Try.underlying106 h
    rw [cells106] at hl
    obtain ⟨c0, c1, rfl⟩ := len2 hl
    rw [cells3] at h0 h1
    obtain ⟨n0, e0, _⟩ := DataW.trod_int Try.underlying3 h0
    obtain ⟨n1, e1, _⟩ := DataW.trod_int Try.underlying3 h1
    simp only [List.drop_zero, List.take_succ_cons, List.take_zero, List.drop_succ_cons, List.cons.injEq, and_true] at e0 e1
    subst e0; subst e1
    exact ⟨⟨n0, n1⟩, rfl⟩

/-- a take-up, as it is read -/
theorem readTake {H : Type} {enc : TypeId × Value → H} {W : World} {r : Reach} {b0 : Nat} {v : Value} {d : DataW H} {p : List MemPlace} (hv : Value.okWide Try.prog W r b0 24 v) (h : DataW.Trod enc Try.prog W 0 (fun _ => true) true 24 v d p) :
    ∃ x : TakeA, RelI (fun b => b < W.heap.size) W v x.av := by
  obtain ⟨v0, v1, v2, v3, y0, y1, y2, y3, n, rfl, _, _, h0, h1, h2, h3⟩ := Joins.open_agg4 Try.underlying24 (by kernel_rfl) cells24 hv h
  obtain ⟨n0, e0, _⟩ := DataW.trod_int Try.underlying3 h0
  obtain ⟨n1, e1, _⟩ := DataW.trod_int Try.underlying3 h1
  obtain ⟨u2, l2, e2, r2⟩ := slice_read encPairT Try.underlying22 h2
  obtain ⟨n3, e3, _⟩ := DataW.trod_int Try.underlying3 h3
  simp only [List.cons.injEq, and_true] at e0 e1 e2 e3
  subst e0; subst e1; subst e2; subst e3
  refine ⟨⟨n0, n1, l2, n3⟩, .agg _ _ rfl fun i v c hi hc => ?_⟩
  match i with
  | 0 => simp at hi hc; subst hi; subst hc; exact .int _ _
  | 1 => simp at hi hc; subst hi; subst hc; exact .int _ _
  | 2 => simp at hi hc; subst hi; subst hc; exact r2
  | 3 => simp at hi hc; subst hi; subst hc; exact .int _ _
  | i + 4 => simp at hi

/-- a slice, as it is read -/
theorem readSlice {H : Type} {enc : TypeId × Value → H} {W : World} {r : Reach} {b0 : Nat} {t e : TypeId} {sz : Nat} {α : Type} {en : α → AV} (hE : EncOk Try.prog e sz α en) (ht : Try.prog.underlying t = some (.slice e)) {v : Value} {d : DataW H} {p : List MemPlace}
    (hv : Value.okWide Try.prog W r b0 t v) (h : DataW.Trod enc Try.prog W 0 (fun _ => true) true t v d p) : ∃ x : List α, RelI (fun b => b < W.heap.size) W v (.list sz (x.map en)) := by
  obtain ⟨n, hn⟩ := h
  obtain ⟨u, l, e0, hr⟩ := slice_read hE ht hn
  have hc : v.cells.toList = [v] := by
    simp only [Value.okWide, ht] at hv
    cases v <;> first | rfl | (simp [Cell.okWide, Cell.ok, ht] at hv)
  rw [hc] at e0
  simp only [List.cons.injEq, and_true] at e0
  subst e0
  exact ⟨l, hr⟩
end Go.Proofs.Ytbmihapnaclidaa
