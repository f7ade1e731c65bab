/-
  What the proofs of chapter 7's statements share: cloth in bytes, read as plain data.
-/
import Derived.Test.YtfokmdhmaabegaaC1
import Derived.Test.YtfokmdhmaabegaaS30
set_option linter.all false
namespace Go.Proofs.Ytfokmdhmaabegaa
set_option maxRecDepth 100000
open Go.ChangeShapes Go.WideShapes Go.ChangeAt Go.RowKit Go.Abs

theorem len4 {α : Type} : ∀ {l : List α}, l.length = 4 → ∃ a b c d, l = [a, b, c, d]
  | [a, b, c, d], _ => ⟨a, b, c, d, rfl⟩
theorem cells5 : Try.prog.cellsOf 5 = 1 := by kernel_rfl
theorem cells139 : Try.prog.cellsOf 139 = 4 := by kernel_rfl
theorem cells83 : Try.prog.cellsOf 83 = 3 := by kernel_rfl

theorem readByte {H : Type} {enc : TypeId × Value → H} {W : World} {base : Nat} {sp : Nat → Bool} {held : Bool} {n : Nat} {cs : List Value} {y : DataW H × List MemPlace} (h : DataW.trod enc Try.prog W base sp held n 5 cs = some y) : ∃ x : Fin 256, cs = [.int .u8 x.1] := by
  obtain ⟨m, e, _, hw⟩ := DataW.trod_int Try.underlying5 h
  have hb : 0 ≤ m ∧ m ≤ 255 := by
    simp [Lit.wf, IntKind.min, IntKind.max, IntKind.signed, IntKind.bits] at hw
    omega
  refine ⟨⟨m.toNat, by omega⟩, ?_⟩
  rw [e]
  congr 2
  show m = ((m.toNat : Nat) : Int)
  omega
theorem encByte : EncOk Try.prog 5 1 (Fin 256) (fun n => u8 n.1) where
  len := fun _ => rfl
  pl := fun x c hc => by simp [AV.cells] at hc; subst hc; rfl
  cells := cells5
  pos := by omega
  read := fun h => by
    obtain ⟨x, rfl⟩ := readByte h
    exact ⟨x, rfl⟩

theorem encQuad : EncOk Try.prog 139 4 Quad Quad.av where
  len := fun _ => rfl
  pl := fun x c hc => by
    simp only [Quad.av, AV.cells, List.mem_cons, List.not_mem_nil, or_false] at hc
    rcases hc with rfl | rfl | rfl | rfl <;> rfl
  cells := cells139
  pos := by omega
  read := fun {H enc W base sp held n cs y} h => by
    obtain ⟨xs, m, _, _, hl, hx, he⟩ := DataW.trod_array Try.underlying139 h
    rw [cells139] at hl
    obtain ⟨c0, c1, c2, c3, rfl⟩ := len4 hl
    obtain ⟨y0, y1, y2, y3, rfl⟩ := len4 hx
    rw [cells5] at he
    obtain ⟨b0, e0⟩ := readByte (he 0 (by omega))
    obtain ⟨b1, e1⟩ := readByte (he 1 (by omega))
    obtain ⟨b2, e2⟩ := readByte (he 2 (by omega))
    obtain ⟨b3, e3⟩ := readByte (he 3 (by omega))
    simp at e0 e1 e2 e3
    subst e0; subst e1; subst e2; subst e3
    exact ⟨⟨b0.1, b1.1, b2.1, b3.1, b0.2, b1.2, b2.2, b3.2⟩, rfl⟩

/-- cloth, as it is read -/
theorem readCloth {H : Type} {enc : TypeId × Value → H} {W : World} {r : Reach} {b0 : Nat} {v : Value} {d : DataW H} {p : List MemPlace} (hv : Value.okWide Try.prog W r b0 83 v) (h : DataW.Trod enc Try.prog W 0 (fun _ => true) true 83 v d p) :
    ∃ x : Cloth, RelI (fun b => b < W.heap.size) W v x.av := by
  obtain ⟨v0, v1, v2, y0, y1, y2, n, rfl, _, _, h0, h1, h2⟩ := Joins.open_agg3 Try.underlying83 (by kernel_rfl) cells83 hv h
  obtain ⟨u0, l0, e0, r0⟩ := slice_read encQuad Try.underlying79 h0
  obtain ⟨m, e1, _, hw⟩ := DataW.trod_int Try.underlying80 h1
  obtain ⟨u2, l2, e2, r2⟩ := slice_read encByte Try.underlying81 h2
  have hb : 0 ≤ m ∧ m ≤ 65535 := by
    simp [Lit.wf, IntKind.min, IntKind.max, IntKind.signed, IntKind.bits] at hw
    omega
  simp only [List.cons.injEq, and_true] at e0 e1 e2
  subst e0; subst e1; subst e2
  refine ⟨⟨l0, m.toNat, l2, by omega⟩, .agg _ _ rfl fun i v c hi hc => ?_⟩
  match i with
  | 0 => simp at hi hc; subst hi; subst hc; exact r0
  | 1 =>
    simp at hi hc; subst hi; subst hc
    have e : ((m.toNat : Nat) : Int) = m := by omega
    first | (rw [e]; exact .int _ _) | (rw [Int.max_eq_left hb.1]; exact .int _ _)
  | 2 => simp at hi hc; subst hi; subst hc; exact r2
  | i + 3 => simp at hi

theorem u8_wf {m : Int} (hw : (Lit.int .u8 m).wf = true) : 0 ≤ m ∧ m ≤ 255 := by
  simp [Lit.wf, IntKind.min, IntKind.max, IntKind.signed, IntKind.bits] at hw
  omega
theorem u16_wf {m : Int} (hw : (Lit.int .u16 m).wf = true) : 0 ≤ m ∧ m ≤ 65535 := by
  simp [Lit.wf, IntKind.min, IntKind.max, IntKind.signed, IntKind.bits] at hw
  omega
end Go.Proofs.Ytfokmdhmaabegaa
