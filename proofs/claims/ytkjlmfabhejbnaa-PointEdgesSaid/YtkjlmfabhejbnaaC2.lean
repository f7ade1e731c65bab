/-
 Several texts: C1, C2.
-/
import Derived.Test.YtkjlmfabhejbnaaRows
import Derived.Test.YtkjlmfabhejbnaaTop
import Derived.Test.YtkjlmfabhejbnaaFlat
import Derived.Test.YtkjlmfabhejbnaaP1
import Derived.Test.YtkjlmfabhejbnaaFns
import Derived.WalkKit
import Derived.ProofKit
import Derived.OpenShut
import Derived.Test.YtkjlmfabhejbnaaD1
set_option linter.all false
namespace Go.Proofs.Ytkjlmfabhejbnaa
set_option maxRecDepth 100000
open Go.ChangeShapes Go.WideShapes Go.ChangeAt Go.RowKit Go.Abs

theorem own : ownKnob Try.prog.godebug = none := by kernel_rfl
theorem laidOut : laidOutB Try.prog = true := by kernel_rfl
theorem mixed : Try.prog.follows .mixedOrders = true := by kernel_rfl

theorem cells3 : Try.prog.cellsOf 3 = 1 := by kernel_rfl
theorem rInt : ReadC Try.prog 3 1 Int (fun n => [iv n]) := .int Try.underlying3 cells3
theorem encInt : EncOk Try.prog 3 1 Int (fun n => iv n) := enc_int Try.underlying3 cells3
theorem rDes : ReadC Try.prog 24 2 DesA (fun x => [iv x.hk, .list 1 (x.rows.map fun n => iv n)]) := by
 have h := ReadC.struct Try.underlying24 (by kernel_rfl) (.cons rfl rInt (.cons rfl (.slice encInt Try.underlying22 (by kernel_rfl)) .nil))
 exact h.map (fun _ => rfl) fun x => ⟨⟨x.1, x.2.1⟩, rfl⟩
theorem readDes {H : Type} {enc : TypeId × Value → H} {W : World} {r : Reach} {b0 : Nat} {v : Value} {d : DataW H} {p : List MemPlace} (hv : Value.okWide Try.prog W r b0 24 v) (h : DataW.Trod enc Try.prog W 0 (fun _ => true) true 24 v d p) :
  ∃ x : DesA, RelI (fun b => b < W.heap.size) W v x.av := rDes.top (.inl ⟨_, Try.underlying24⟩) hv h
end Go.Proofs.Ytkjlmfabhejbnaa

set_option linter.all false
namespace Go.Proofs.Ytkjlmfabhejbnaa
set_option maxRecDepth 100000
open Go.ChangeShapes Go.WideShapes Go.ChangeAt Go.RowKit Go.Abs

theorem u8_wf {m : Int} (hw : (Lit.int .u8 m).wf = true) : 0 ≤ m ∧ m ≤ 255 := by
 have := wf_u8 m hw
 omega
theorem rByte : ReadC Try.prog 5 1 (Fin 256) (fun n => [.int .u8 (n.1 : Int)]) := .small 256 Try.underlying5 (by kernel_rfl) wf_u8
theorem rU16 : ReadC Try.prog 67 1 (Fin 65536) (fun n => [.int .u16 (n.1 : Int)]) := .small 65536 Try.underlying67 (by kernel_rfl) wf_u16
theorem encU16 : EncOk Try.prog 67 1 (Fin 65536) (fun n => .int .u16 (n.1 : Int)) := rU16.enc (by omega) (fun _ => rfl) fun x a ha => by
 simp only [List.mem_cons, List.not_mem_nil, or_false] at ha
 subst ha; rfl
theorem rPaper : ReadC Try.prog 64 2 PaperB (fun x => [.int .u8 (x.hk.1 : Int), .list 1 (x.rows.map fun r => .int .u16 (r.1 : Int))]) := by
 have h := ReadC.struct Try.underlying64 (by kernel_rfl) (.cons rfl rByte (.cons rfl (.slice encU16 Try.underlying62 (by kernel_rfl)) .nil))
 exact h.map (fun _ => rfl) fun x => ⟨⟨x.1, x.2.1⟩, rfl⟩
theorem readPaper {H : Type} {enc : TypeId × Value → H} {W : World} {r : Reach} {b0 : Nat} {v : Value} {d : DataW H} {p : List MemPlace} (hv : Value.okWide Try.prog W r b0 64 v) (h : DataW.Trod enc Try.prog W 0 (fun _ => true) true 64 v d p) :
  ∃ x : PaperB, RelI (fun b => b < W.heap.size) W v x.av := rPaper.top (.inl ⟨_, Try.underlying64⟩) hv h
theorem rV2 : ReadC Try.prog 83 2 (Arr (Fin 256) 2) (fun x => x.1.flatMap fun n => [.int .u8 (n.1 : Int)]) := .array Try.underlying83 rByte (by kernel_rfl) rfl
theorem readV2 {H : Type} {enc : TypeId × Value → H} {W : World} {r : Reach} {b0 : Nat} {v : Value} {d : DataW H} {p : List MemPlace} (hv : Value.okWide Try.prog W r b0 83 v) (h : DataW.Trod enc Try.prog W 0 (fun _ => true) true 83 v d p) :
  ∃ x : Arr (Fin 256) 2, RelI (fun b => b < W.heap.size) W v (.agg (x.1.flatMap fun n => [.int .u8 (n.1 : Int)])) := rV2.top (.inr ⟨_, _, Try.underlying83⟩) hv h
theorem rV3 : ReadC Try.prog 65 3 (Arr (Fin 256) 3) (fun x => x.1.flatMap fun n => [.int .u8 (n.1 : Int)]) := .array Try.underlying65 rByte (by kernel_rfl) rfl
theorem readV3 {H : Type} {enc : TypeId × Value → H} {W : World} {r : Reach} {b0 : Nat} {v : Value} {d : DataW H} {p : List MemPlace} (hv : Value.okWide Try.prog W r b0 65 v) (h : DataW.Trod enc Try.prog W 0 (fun _ => true) true 65 v d p) :
  ∃ x : Arr (Fin 256) 3, RelI (fun b => b < W.heap.size) W v (.agg (x.1.flatMap fun n => [.int .u8 (n.1 : Int)])) := rV3.top (.inr ⟨_, _, Try.underlying65⟩) hv h
theorem readSlice {H : Type} {enc : TypeId × Value → H} {W : World} {r : Reach} {b0 : Nat} {t e : TypeId} {sz : Nat} {α : Type} {en : α → AV} (hE : EncOk Try.prog e sz α en) (ht : Try.prog.underlying t = some (.slice e)) {v : Value} {d : DataW H} {p : List MemPlace}
  (hv : Value.okWide Try.prog W r b0 t v) (h : DataW.Trod enc Try.prog W 0 (fun _ => true) true t v d p) : ∃ x : List α, RelI (fun b => b < W.heap.size) W v (.list sz (x.map en)) := by
 obtain ⟨n, hn⟩ := h
 obtain ⟨u, l, e0, hr⟩ := slice_read hE ht hn
 have hc : v.cells.toList = [v] := by
  simp only [Value.okWide, ht] at hv
  cases v <;> first | rfl | (simp [Cell.okWide, Cell.ok, ht] at hv)
 rw [hc] at e0
 simp only [List.cons.injEq, and_true] at e0
 subst e0
 exact ⟨l, hr⟩
end Go.Proofs.Ytkjlmfabhejbnaa
