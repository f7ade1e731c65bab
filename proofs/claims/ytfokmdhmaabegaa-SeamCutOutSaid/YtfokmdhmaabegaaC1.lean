/-
  What the proofs of chapter 7's statements share: the types of this program, read as plain data.
-/
import Derived.Test.YtfokmdhmaabegaaRows
import Derived.Test.YtfokmdhmaabegaaTop
import Derived.Test.YtfokmdhmaabegaaS1
import Derived.Test.YtfokmdhmaabegaaFns
import Derived.WalkKit
import Derived.ProofKit
import Derived.OpenShut
set_option linter.all false
namespace Go.Proofs.Ytfokmdhmaabegaa
set_option maxRecDepth 100000
open Go.ChangeShapes Go.WideShapes Go.ChangeAt Go.RowKit Go.Abs

theorem len3 {α : Type} : ∀ {l : List α}, l.length = 3 → ∃ a b c, l = [a, b, c]
  | [a, b, c], _ => ⟨a, b, c, rfl⟩
theorem len2 {α : Type} : ∀ {l : List α}, l.length = 2 → ∃ a b, l = [a, b]
  | [a, b], _ => ⟨a, b, rfl⟩

theorem own : ownKnob Try.prog.godebug = none := by kernel_rfl
theorem laidOut : laidOutB Try.prog = true := by kernel_rfl
theorem mixed : Try.prog.follows .mixedOrders = true := by kernel_rfl

theorem cells3 : Try.prog.cellsOf 3 = 1 := by kernel_rfl
theorem cells48 : Try.prog.cellsOf 48 = 2 := by kernel_rfl
theorem cells93 : Try.prog.cellsOf 93 = 3 := by kernel_rfl
theorem cells25 : Try.prog.cellsOf 25 = 3 := by kernel_rfl

theorem encInt : EncOk Try.prog 3 1 Int (fun n => iv n) := enc_int Try.underlying3 cells3

theorem encPart : EncOk Try.prog 93 3 Part Part.av where
  len := fun _ => rfl
  pl := fun x c hc => by
    simp only [Part.av, AV.cells, List.mem_cons, List.not_mem_nil, or_false] at hc
    rcases hc with rfl | rfl | rfl <;> rfl
  cells := cells93
  pos := by omega
  read := fun {H enc W base sp held n cs y} h => by
    obtain ⟨y0, y1, m, _, hl, h0, h1⟩ := trod_struct2 Try.underlying93 h
    rw [cells93] at hl
    obtain ⟨c0, c1, c2, rfl⟩ := len3 hl
    rw [cells3] at h0
    rw [cells48] at h1
    obtain ⟨z0, z1, k, _, _, h2, h3⟩ := trod_struct2 Try.underlying48 h1
    rw [cells3] at h2 h3
    obtain ⟨n0, e0, _⟩ := DataW.trod_int Try.underlying3 h0
    obtain ⟨n1, e1, _⟩ := DataW.trod_int Try.underlying3 h2
    obtain ⟨n2, e2, _⟩ := DataW.trod_int Try.underlying3 h3
    simp only [List.drop_zero, List.take_succ_cons, List.take_zero, List.drop_succ_cons, List.cons.injEq, and_true] at e0 e1 e2
    subst e0; subst e1; subst e2
    exact ⟨⟨n0, n1, n2⟩, rfl⟩

end Go.Proofs.Ytfokmdhmaabegaa
