/-
 What the proofs of this seat's statements share: rows, bytes and looms, read as plain data.
-/
import Derived.Test.YtgpbjihpkoiaiaaRows
import Derived.Test.YtgpbjihpkoiaiaaTop
import Derived.Test.YtgpbjihpkoiaiaaFlat
import Derived.Test.YtgpbjihpkoiaiaaFns
import Derived.WalkKit
import Derived.ProofKit
import Derived.OpenShut
set_option linter.all false
namespace Go.Proofs.Ytgpbjihpkoiaiaa
set_option maxRecDepth 100000
open Go.ChangeShapes Go.WideShapes Go.ChangeAt Go.RowKit Go.Abs
theorem own : ownKnob Try.prog.godebug = none := by kernel_rfl
theorem laidOut : laidOutB Try.prog = true := by kernel_rfl
theorem mixed : Try.prog.follows .mixedOrders = true := by kernel_rfl
theorem rByte : ReadC Try.prog 5 1 (Fin 256) (fun n => [.int .u8 (n.1 : Int)]) := .small 256 Try.underlying5 (by kernel_rfl) wf_u8
theorem rU16 : ReadC Try.prog 26 1 (Fin 65536) (fun n => [.int .u16 (n.1 : Int)]) := .small 65536 Try.underlying26 (by kernel_rfl) wf_u16
theorem encU16 : EncOk Try.prog 26 1 (Fin 65536) (fun n => .int .u16 (n.1 : Int)) := rU16.enc (by omega) (fun _ => rfl) fun x a ha => by
 simp only [List.mem_cons, List.not_mem_nil, or_false] at ha;subst ha; rfl
theorem rW4 : ReadC Try.prog 74 4 (Arr (Fin 256) 4) (fun x => x.1.flatMap fun n => [.int .u8 (n.1 : Int)]) := .array Try.underlying74 rByte (by kernel_rfl) rfl
theorem readW4 {H : Type} {enc : TypeId × Value → H} {W : World} {r : Reach} {b0 : Nat} {v : Value} {d : DataW H} {p : List MemPlace} (hv : Value.okWide Try.prog W r b0 74 v) (h : DataW.Trod enc Try.prog W 0 (fun _ => true) true 74 v d p) :
  ∃ x : Arr (Fin 256) 4, RelI (fun b => b < W.heap.size) W v (.agg (x.1.flatMap fun n => [.int .u8 (n.1 : Int)])) := rW4.top (.inr ⟨_, _, Try.underlying74⟩) hv h
theorem readSlice {H : Type} {enc : TypeId × Value → H} {W : World} {r : Reach} {b0 : Nat} {t e : TypeId} {sz : Nat} {α : Type} {en : α → AV} (hE : EncOk Try.prog e sz α en) (ht : Try.prog.underlying t = some (.slice e)) {v : Value} {d : DataW H} {p : List MemPlace}
  (hv : Value.okWide Try.prog W r b0 t v) (h : DataW.Trod enc Try.prog W 0 (fun _ => true) true t v d p) : ∃ x : List α, RelI (fun b => b < W.heap.size) W v (.list sz (x.map en)) := by
 obtain ⟨n, hn⟩ := h;obtain ⟨u, l, e0, hr⟩ := slice_read hE ht hn;have hc : v.cells.toList = [v] := by
  simp only [Value.okWide, ht] at hv;cases v <;> first | rfl | (simp [Cell.okWide, Cell.ok, ht] at hv)
 rw [hc] at e0;simp only [List.cons.injEq, and_true] at e0;subst e0;exact ⟨l, hr⟩
end Go.Proofs.Ytgpbjihpkoiaiaa
