/-
  The first statements of a code, apart from the others.
-/
import Derived.Test.YtkjlmfabhejbnaaK
set_option linter.all false
namespace Go.Abs

/-- a part that always ends with one frame -/
theorem Wp.meet {call : CallF} {fr fr2 : Fr} {Q : AEx → Fr → Prop} {a b : ACode} (ha : Wp call a fr (fun ex fr' => ex = .normal ∧ fr' = fr2)) (hb : Wp call b fr2 Q) : Wp call (.seq a b) fr Q :=
  Wp.seq (ha.mono fun ex fr' h => by obtain ⟨rfl, rfl⟩ := h; exact hb)

/-- the first statements, and the others -/
def frontC : Nat → ACode → ACode
  | n + 1, .seq a b => .seq a (frontC n b)
  | _, _ => .skip
def backC : Nat → ACode → ACode
  | n + 1, .seq _ b => backC n b
  | _, c => c
theorem Wp.seq_inv {call : CallF} {Q : AEx → Fr → Prop} {a b : ACode} {fr : Fr} (h : Wp call (.seq a b) fr Q) : Wp call a fr (thenQ call b Q) := by
  unfold Wp at h
  obtain ⟨n, ex, fr', h1, h2⟩ := h
  simp only [evalCode] at h1
  unfold Wp
  cases hx : evalCode call n a fr with
  | none => rw [hx] at h1; cases h1
  | some q =>
    obtain ⟨q1, q2⟩ := q
    rw [hx] at h1
    refine ⟨n, q1, q2, hx, ?_⟩
    cases q1 with
    | normal => show Wp call b q2 Q; unfold Wp; exact ⟨n, ex, fr', h1, h2⟩
    | exit i => cases h1; exact h2
    | ret => cases h1; exact h2
theorem Wp.skip_inv {call : CallF} {Q : AEx → Fr → Prop} {fr : Fr} (h : Wp call .skip fr Q) : Q .normal fr := by
  unfold Wp at h
  obtain ⟨n, ex, fr', h1, h2⟩ := h
  simp only [evalCode] at h1
  cases h1; exact h2
/-- the first statements, by all frames that they can leave -/
theorem Wp.cutP {call : CallF} {Q : AEx → Fr → Prop} (P : Fr → Prop) : ∀ (n : Nat) (c : ACode) (fr : Fr), Wp call (frontC n c) fr (fun ex fr' => ex = .normal ∧ P fr') → (∀ fr', P fr' → Wp call (backC n c) fr' Q) → Wp call c fr Q
  | n + 1, .seq a b, fr, h1, h2 => by
    refine Wp.seq ((Wp.seq_inv h1).mono fun ex fr' h => ?_)
    cases ex with
    | normal => exact Wp.cutP P n b fr' h h2
    | exit i => exact absurd h.1 (by simp)
    | ret => exact absurd h.1 (by simp)
  | 0, c, fr, h1, h2 => by
    have e1 : frontC 0 c = .skip := by cases c <;> rfl
    have e2 : backC 0 c = c := by cases c <;> rfl
    rw [e1] at h1; rw [e2] at h2
    exact h2 fr (Wp.skip_inv h1).2
  | _ + 1, .skip, fr, h1, h2 => h2 fr (Wp.skip_inv h1).2
  | _ + 1, .region .., fr, h1, h2 => h2 fr (Wp.skip_inv h1).2
  | _ + 1, .cond .., fr, h1, h2 => h2 fr (Wp.skip_inv h1).2
  | _ + 1, .block .., fr, h1, h2 => h2 fr (Wp.skip_inv h1).2
  | _ + 1, .loop .., fr, h1, h2 => h2 fr (Wp.skip_inv h1).2
  | _ + 1, .exit .., fr, h1, h2 => h2 fr (Wp.skip_inv h1).2
  | _ + 1, .ret, fr, h1, h2 => h2 fr (Wp.skip_inv h1).2
  | _ + 1, .rangeF .., fr, h1, h2 => h2 fr (Wp.skip_inv h1).2
  | _ + 1, .norm .., fr, h1, h2 => h2 fr (Wp.skip_inv h1).2
  | _ + 1, .rangeM .., fr, h1, h2 => h2 fr (Wp.skip_inv h1).2

end Go.Abs
