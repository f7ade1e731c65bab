/-
  What the proofs of chapter 7's statements share: lengths that are cut, in bytes, read as plain data.
-/
import Derived.Test.YtfokmdhmaabegaaC4
import Derived.Test.YtfokmdhmaabegaaS45
set_option linter.all false
namespace Go.Proofs.Ytfokmdhmaabegaa
set_option maxRecDepth 100000
open Go.ChangeShapes Go.WideShapes Go.ChangeAt Go.RowKit Go.Abs

theorem cells5 : Try.prog.cellsOf 5 = 1 := by kernel_rfl
theorem cells141 : Try.prog.cellsOf 141 = 2 := by kernel_rfl
theorem cells99 : Try.prog.cellsOf 99 = 3 := by kernel_rfl

theorem readByte {H : Type} {enc : TypeId × Value → H} {W : World} {base : Nat} {sp : Nat → Bool} {held : Bool} {n : Nat} {cs : List Value} {y : DataW H × List MemPlace} (h : DataW.trod enc Try.prog W base sp held n 5 cs = some y) : ∃ x : Fin 256, cs = [.int .u8 x.1] := by
  obtain ⟨m, e, _, hw⟩ := DataW.trod_int Try.underlying5 h
  have hb : 0 ≤ m ∧ m ≤ 255 := by
    simp [Lit.wf, IntKind.min, IntKind.max, IntKind.signed, IntKind.bits] at hw
    omega
  refine ⟨⟨m.toNat, by omega⟩, ?_⟩
  rw [e]
  congr 2
  show m = ((m.toNat : Nat) : Int)
  omega
theorem encByte : EncOk Try.prog 5 1 (Fin 256) (fun n => b8 n.1) where
  len := fun _ => rfl
  pl := fun x c hc => by simp [AV.cells] at hc; subst hc; rfl
  cells := cells5
  pos := by omega
  read := fun h => by
    obtain ⟨x, rfl⟩ := readByte h
    exact ⟨x, rfl⟩
theorem encTwo : EncOk Try.prog 141 2 (Fin 256 × Fin 256) twoB where
  len := fun _ => rfl
  pl := fun x c hc => by
    simp only [twoB, AV.cells, List.mem_cons, List.not_mem_nil, or_false] at hc
    rcases hc with rfl | rfl <;> rfl
  cells := cells141
  pos := by omega
  read := fun {H enc W base sp held n cs y} h => by
    obtain ⟨xs, m, _, _, hl, hx, he⟩ := DataW.trod_array Try.underlying141 h
    rw [cells141] at hl
    obtain ⟨c0, c1, rfl⟩ := len2 hl
    obtain ⟨y0, y1, rfl⟩ := len2 hx
    rw [cells5] at he
    obtain ⟨b0, e0⟩ := readByte (he 0 (by omega))
    obtain ⟨b1, e1⟩ := readByte (he 1 (by omega))
    simp at e0 e1
    subst e0; subst e1
    exact ⟨(b0, b1), rfl⟩

/-- a piece's lengths, as they are read -/
theorem readBolt {H : Type} {enc : TypeId × Value → H} {W : World} {r : Reach} {b0 : Nat} {v : Value} {d : DataW H} {p : List MemPlace} (hv : Value.okWide Try.prog W r b0 99 v) (h : DataW.Trod enc Try.prog W 0 (fun _ => true) true 99 v d p) :
    ∃ x : BoltA, RelI (fun b => b < W.heap.size) W v x.av := by
  obtain ⟨v0, v1, v2, y0, y1, y2, n, rfl, _, _, h0, h1, h2⟩ := Joins.open_agg3 Try.underlying99 (by kernel_rfl) cells99 hv h
  obtain ⟨m, e0⟩ := readByte h0
  obtain ⟨u1, l1, e1, r1⟩ := slice_read encByte Try.underlying81 h1
  obtain ⟨u2, l2, e2, r2⟩ := slice_read encTwo Try.underlying97 h2
  simp only [List.cons.injEq, and_true] at e0 e1 e2
  subst e0; subst e1; subst e2
  refine ⟨⟨m.1, l1, l2, m.2⟩, .agg _ _ rfl fun i v c hi hc => ?_⟩
  match i with
  | 0 => simp at hi hc; subst hi; subst hc; exact .int _ _
  | 1 => simp at hi hc; subst hi; subst hc; exact r1
  | 2 => simp at hi hc; subst hi; subst hc; exact r2
  | i + 3 => simp at hi

theorem u16_wf {m : Int} (hw : (Lit.int .u16 m).wf = true) : 0 ≤ m ∧ m ≤ 65535 := by
  simp [Lit.wf, IntKind.min, IntKind.max, IntKind.signed, IntKind.bits] at hw
  omega
end Go.Proofs.Ytfokmdhmaabegaa
