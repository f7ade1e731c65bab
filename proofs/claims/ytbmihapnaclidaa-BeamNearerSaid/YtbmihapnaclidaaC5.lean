/-
  What the proofs of chapter 6's statements share: take-ups in bytes, read as plain data.
-/
import Derived.Test.YtbmihapnaclidaaC3
import Derived.Test.YtbmihapnaclidaaE1
set_option linter.all false
namespace Go.Proofs.Ytbmihapnaclidaa
set_option maxRecDepth 100000
open Go.ChangeShapes Go.WideShapes Go.ChangeAt Go.RowKit Go.Abs

theorem u32_wf {m : Int} (hw : (Lit.int .u32 m).wf = true) : 0 ≤ m ∧ m ≤ 4294967295 := by
  have := wf_u32 m hw
  omega
theorem rTwo : ReadC Try.prog 178 2 TwoB (fun x => [.int .u8 (x.1.1 : Int), .int .u8 (x.2.1 : Int)]) := by
  have h := ReadC.array Try.underlying178 rByte (m := 2) (by kernel_rfl) rfl
  exact h.map (fun _ => rfl) fun x => by
    obtain ⟨l, hl⟩ := x
    match l, hl with
    | [a, b], _ => exact ⟨(a, b), rfl⟩
theorem encTwoB : EncOk Try.prog 178 2 TwoB TwoB.av := rTwo.enc (by omega) (fun _ => rfl) fun x a ha => by
  simp only [List.mem_cons, List.not_mem_nil, or_false] at ha
  rcases ha with rfl | rfl <;> rfl
theorem rGear : ReadC Try.prog 99 4 GearA (fun x => [.int .u8 (x.rat.1 : Int), .int .u8 (x.step.1 : Int), .list 2 (x.pairs.map TwoB.av), .int .u16 (x.round.1 : Int)]) := by
  have h := ReadC.struct Try.underlying99 (by kernel_rfl) (.cons rfl rByte (.cons rfl rByte (.cons rfl (.slice encTwoB Try.underlying96 (by kernel_rfl)) (.cons rfl rU16 .nil))))
  exact h.map (fun _ => rfl) fun x => ⟨⟨x.1, x.2.1, x.2.2.1, x.2.2.2.1⟩, rfl⟩
theorem readGear {H : Type} {enc : TypeId × Value → H} {W : World} {r : Reach} {b0 : Nat} {v : Value} {d : DataW H} {p : List MemPlace} (hv : Value.okWide Try.prog W r b0 99 v) (h : DataW.Trod enc Try.prog W 0 (fun _ => true) true 99 v d p) :
    ∃ x : GearA, RelI (fun b => b < W.heap.size) W v x.av := rGear.top (.inl ⟨_, Try.underlying99⟩) hv h
end Go.Proofs.Ytbmihapnaclidaa
