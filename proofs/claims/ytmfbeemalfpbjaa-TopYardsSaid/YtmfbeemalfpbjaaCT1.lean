/-
  What the proofs of this seat's statements share: take-ups in bytes, read as plain data.
-/
import Derived.Test.YtmfbeemalfpbjaaRows
import Derived.Test.YtmfbeemalfpbjaaTop
import Derived.Test.YtmfbeemalfpbjaaFlat
import Derived.Test.YtmfbeemalfpbjaaT1
import Derived.Test.YtmfbeemalfpbjaaFns
import Derived.WalkKit
import Derived.ProofKit
import Derived.OpenShut
set_option linter.all false
namespace Go.Proofs.Ytmfbeemalfpbjaa
set_option maxRecDepth 100000
open Go.ChangeShapes Go.WideShapes Go.ChangeAt Go.RowKit Go.Abs

theorem own : ownKnob Try.prog.godebug = none := by kernel_rfl
theorem laidOut : laidOutB Try.prog = true := by kernel_rfl
theorem mixed : Try.prog.follows .mixedOrders = true := by kernel_rfl
theorem u8_wf {m : Int} (hw : (Lit.int .u8 m).wf = true) : 0 ≤ m ∧ m ≤ 255 := by
  have := wf_u8 m hw
  omega
theorem u32_wf {m : Int} (hw : (Lit.int .u32 m).wf = true) : 0 ≤ m ∧ m ≤ 4294967295 := by
  have := wf_u32 m hw
  omega
theorem rByte : ReadC Try.prog 5 1 (Fin 256) (fun n => [.int .u8 (n.1 : Int)]) := .small 256 Try.underlying5 (by kernel_rfl) wf_u8
theorem rU16 : ReadC Try.prog 22 1 (Fin 65536) (fun n => [.int .u16 (n.1 : Int)]) := .small 65536 Try.underlying22 (by kernel_rfl) wf_u16
theorem rTwo : ReadC Try.prog 23 2 (Fin 256 × Fin 256) (fun x => [.int .u8 (x.1.1 : Int), .int .u8 (x.2.1 : Int)]) := by
  have h := ReadC.array Try.underlying23 rByte (m := 2) (by kernel_rfl) rfl
  exact h.map (fun _ => rfl) fun x => by
    obtain ⟨l, hl⟩ := x
    match l, hl with
    | [a, b], _ => exact ⟨(a, b), rfl⟩
theorem rGear : ReadC Try.prog 25 6 GearB (fun x => [.int .u8 (x.rat.1 : Int), .int .u8 (x.dr.1 : Int), .int .u8 (x.dn.1 : Int), .int .u16 (x.round.1 : Int), .int .u8 (x.r0.1 : Int), .int .u8 (x.r1.1 : Int)]) := by
  have h := ReadC.struct Try.underlying25 (by kernel_rfl) (.cons rfl rByte (.cons rfl rByte (.cons rfl rByte (.cons rfl rU16 (.cons rfl rTwo .nil)))))
  exact h.map (fun _ => rfl) fun x => ⟨⟨x.1, x.2.1, x.2.2.1, x.2.2.2.1, x.2.2.2.2.1.1, x.2.2.2.2.1.2⟩, rfl⟩
theorem readGear {H : Type} {enc : TypeId × Value → H} {W : World} {r : Reach} {b0 : Nat} {v : Value} {d : DataW H} {p : List MemPlace} (hv : Value.okWide Try.prog W r b0 25 v) (h : DataW.Trod enc Try.prog W 0 (fun _ => true) true 25 v d p) :
    ∃ x : GearB, RelI (fun b => b < W.heap.size) W v x.av := rGear.top (.inl ⟨_, Try.underlying25⟩) hv h
end Go.Proofs.Ytmfbeemalfpbjaa
