/-
 What the proofs of this seat's statements share: take-ups in bytes, read as plain data.
-/
import Derived.Test.YtgpbjihpkoiaiaaCZ
import Derived.Test.YtgpbjihpkoiaiaaGB
set_option linter.all false
namespace Go.Proofs.Ytgpbjihpkoiaiaa
set_option maxRecDepth 100000
open Go.ChangeShapes Go.WideShapes Go.ChangeAt Go.RowKit Go.Abs
theorem rTwo : ReadC Try.prog 27 2 (Fin 256 × Fin 256) (fun x => [.int .u8 (x.1.1 : Int), .int .u8 (x.2.1 : Int)]) := by
 have h := ReadC.array Try.underlying27 rByte (m := 2) (by kernel_rfl) rfl
 exact h.map (fun _ => rfl) fun x => by
  obtain ⟨l, hl⟩ := x
  match l, hl with
  | [a, b], _ => exact ⟨(a, b), rfl⟩
theorem rGear : ReadC Try.prog 29 6 GearB (fun x => [.int .u8 (x.rat.1 : Int), .int .u8 (x.dr.1 : Int), .int .u8 (x.dn.1 : Int), .int .u16 (x.round.1 : Int), .int .u8 (x.r0.1 : Int), .int .u8 (x.r1.1 : Int)]) := by
 have h := ReadC.struct Try.underlying29 (by kernel_rfl) (.cons rfl rByte (.cons rfl rByte (.cons rfl rByte (.cons rfl rU16 (.cons rfl rTwo .nil)))))
 exact h.map (fun _ => rfl) fun x => ⟨⟨x.1, x.2.1, x.2.2.1, x.2.2.2.1, x.2.2.2.2.1.1, x.2.2.2.2.1.2⟩, rfl⟩
theorem readGear {H : Type} {enc : TypeId × Value → H} {W : World} {r : Reach} {b0 : Nat} {v : Value} {d : DataW H} {p : List MemPlace} (hv : Value.okWide Try.prog W r b0 29 v) (h : DataW.Trod enc Try.prog W 0 (fun _ => true) true 29 v d p) :
  ∃ x : GearB, RelI (fun b => b < W.heap.size) W v x.av := rGear.top (.inl ⟨_, Try.underlying29⟩) hv h
end Go.Proofs.Ytgpbjihpkoiaiaa
