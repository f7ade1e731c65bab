/-
 What the proof of this seat's statement needs to read its arguments: bytes, as plain data.
-/
import Derived.Test.YtckchbknbchknaaRows
import Derived.Test.YtckchbknbchknaaTop
import Derived.Test.YtckchbknbchknaaFlat
import Derived.Test.YtckchbknbchknaaFns
import Derived.WalkKit
import Derived.ProofKit
import Derived.OpenShut
set_option linter.all false
namespace Go.Proofs.Ytckchbknbchknaa
set_option maxRecDepth 100000
open Go.ChangeShapes Go.WideShapes Go.ChangeAt Go.RowKit Go.Abs
theorem own : ownKnob Try.prog.godebug = none := by kernel_rfl
theorem laidOut : laidOutB Try.prog = true := by kernel_rfl
theorem mixed : Try.prog.follows .mixedOrders = true := by kernel_rfl
theorem rByte : ReadC Try.prog 5 1 (Fin 256) (fun n => [.int .u8 (n.1 : Int)]) := .small 256 Try.underlying5 (by kernel_rfl) wf_u8
theorem encU8 : EncOk Try.prog 5 1 (Fin 256) (fun n => .int .u8 (n.1 : Int)) := rByte.enc (by omega) (fun _ => rfl) fun x a ha => by
 simp only [List.mem_cons, List.not_mem_nil, or_false] at ha;subst ha; rfl
theorem readSlice {H : Type} {enc : TypeId × Value → H} {W : World} {r : Reach} {b0 : Nat} {t e : TypeId} {sz : Nat} {α : Type} {en : α → AV} (hE : EncOk Try.prog e sz α en) (ht : Try.prog.underlying t = some (.slice e)) {v : Value} {d : DataW H} {p : List MemPlace}
  (hv : Value.okWide Try.prog W r b0 t v) (h : DataW.Trod enc Try.prog W 0 (fun _ => true) true t v d p) : ∃ x : List α, RelI (fun b => b < W.heap.size) W v (.list sz (x.map en)) := by
 obtain ⟨n, hn⟩ := h;obtain ⟨u, l, e0, hr⟩ := slice_read hE ht hn;have hc : v.cells.toList = [v] := by
  simp only [Value.okWide, ht] at hv;cases v <;> first | rfl | (simp [Cell.okWide, Cell.ok, ht] at hv)
 rw [hc] at e0;simp only [List.cons.injEq, and_true] at e0;subst e0;exact ⟨l, hr⟩
end Go.Proofs.Ytckchbknbchknaa
