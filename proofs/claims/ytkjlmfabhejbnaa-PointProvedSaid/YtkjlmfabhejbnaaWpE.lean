/-
 Several texts: WpE, Cut.
-/
import Derived.Test.YtkjlmfabhejbnaaK
set_option linter.all false
namespace Go.Abs

/-- at a function's end there is a result with a property -/
def finP (res : List ARes) (P : AV × List AV → Prop) : AEx → Fr → Prop
 | .exit _, _ => False
 | _, fr => ∃ r, finL res fr = some r ∧ P r
theorem finp_ret {res : List ARes} {P : AV × List AV → Prop} {r : AV × List AV} {fr : Fr} (h : finL res fr = some r) (hp : P r) : finP res P .ret fr := ⟨r, h, hp⟩
theorem finp_norm {res : List ARes} {P : AV × List AV → Prop} {r : AV × List AV} {fr : Fr} (h : finL res fr = some r) (hp : P r) : finP res P .normal fr := ⟨r, h, hp⟩

theorem lim_ex {F : Nat → Option AFn} {f : Nat} {fn : AFn} {args : List AV} {P : AV × List AV → Prop} {k : Nat} {res : List ARes} {body : ACode} (hf : F f = some fn) (he : fn = ⟨k, res, body⟩) (ha : args.length = k) (hi : (imArgs 200000 args).2.2.2 ≤ 10000000)
  (h : Wp (lim F) body ⟨enumFrom 0 (imArgs 200000 args).1, (imArgs 200000 args).2.1, (imArgs 200000 args).2.2.1, 10000000⟩ (finP res P)) : ∃ r, lim F f args = some r ∧ P r := by
 unfold Wp at h
 obtain ⟨n, ex, fr', h1, h2⟩ := h
 have key : ∃ r, finR res r ex fr' ∧ P r := by
  cases ex with
  | exit i => exact h2.elim
  | normal => exact h2
  | ret => exact h2
 obtain ⟨r, h3, h4⟩ := key
 refine ⟨r, lim_by hf he ha hi ?_, h4⟩
 unfold Wp
 exact ⟨n, ex, fr', h1, h3⟩

/-! ### Looking up at once -/
def LkIs {α : Type} (k : Nat) (l : List (Nat × α)) (o : Option α) : Prop := lk k l = o
theorem lk_is {α : Type} {k : Nat} {l : List (Nat × α)} {o : Option α} (h : lk k l = o) : LkIs k l o := h
theorem lk_by {α : Type} {k : Nat} {l : List (Nat × α)} {v : α} (h : LkIs k l (some v)) : lk k l = some v := h
end Go.Abs

set_option linter.all false
namespace Go.Abs

/-- a part that always ends with one frame -/
theorem Wp.meet {call : CallF} {fr fr2 : Fr} {Q : AEx → Fr → Prop} {a b : ACode} (ha : Wp call a fr (fun ex fr' => ex = .normal ∧ fr' = fr2)) (hb : Wp call b fr2 Q) : Wp call (.seq a b) fr Q :=
 Wp.seq (ha.mono fun ex fr' h => by obtain ⟨rfl, rfl⟩ := h; exact hb)

/-- the first statements, and the others -/
def frontC : Nat → ACode → ACode
 | n + 1, .seq a b => .seq a (frontC n b)
 | _, _ => .skip
def backC : Nat → ACode → ACode
 | n + 1, .seq _ b => backC n b
 | _, c => c
theorem Wp.seq_inv {call : CallF} {Q : AEx → Fr → Prop} {a b : ACode} {fr : Fr} (h : Wp call (.seq a b) fr Q) : Wp call a fr (thenQ call b Q) := by
 unfold Wp at h
 obtain ⟨n, ex, fr', h1, h2⟩ := h
 simp only [evalCode] at h1
 unfold Wp
 cases hx : evalCode call n a fr with
 | none => rw [hx] at h1; cases h1
 | some q =>
  obtain ⟨q1, q2⟩ := q
  rw [hx] at h1
  refine ⟨n, q1, q2, hx, ?_⟩
  cases q1 with
  | normal => show Wp call b q2 Q; unfold Wp; exact ⟨n, ex, fr', h1, h2⟩
  | exit i => cases h1; exact h2
  | ret => cases h1; exact h2
theorem Wp.skip_inv {call : CallF} {Q : AEx → Fr → Prop} {fr : Fr} (h : Wp call .skip fr Q) : Q .normal fr := by
 unfold Wp at h
 obtain ⟨n, ex, fr', h1, h2⟩ := h
 simp only [evalCode] at h1
 cases h1; exact h2
/-- the first statements, by all frames that they can leave -/
theorem Wp.cutP {call : CallF} {Q : AEx → Fr → Prop} (P : Fr → Prop) : ∀ (n : Nat) (c : ACode) (fr : Fr), Wp call (frontC n c) fr (fun ex fr' => ex = .normal ∧ P fr') → (∀ fr', P fr' → Wp call (backC n c) fr' Q) → Wp call c fr Q
 | n + 1, .seq a b, fr, h1, h2 => by
  refine Wp.seq ((Wp.seq_inv h1).mono fun ex fr' h => ?_)
  cases ex with
  | normal => exact Wp.cutP P n b fr' h h2
  | exit i => exact absurd h.1 (by simp)
  | ret => exact absurd h.1 (by simp)
 | 0, c, fr, h1, h2 => by
  have e1 : frontC 0 c = .skip := by cases c <;> rfl
  have e2 : backC 0 c = c := by cases c <;> rfl
  rw [e1] at h1; rw [e2] at h2
  exact h2 fr (Wp.skip_inv h1).2
 | _ + 1, .skip, fr, h1, h2 => h2 fr (Wp.skip_inv h1).2
 | _ + 1, .region .., fr, h1, h2 => h2 fr (Wp.skip_inv h1).2
 | _ + 1, .cond .., fr, h1, h2 => h2 fr (Wp.skip_inv h1).2
 | _ + 1, .block .., fr, h1, h2 => h2 fr (Wp.skip_inv h1).2
 | _ + 1, .loop .., fr, h1, h2 => h2 fr (Wp.skip_inv h1).2
 | _ + 1, .exit .., fr, h1, h2 => h2 fr (Wp.skip_inv h1).2
 | _ + 1, .ret, fr, h1, h2 => h2 fr (Wp.skip_inv h1).2
 | _ + 1, .rangeF .., fr, h1, h2 => h2 fr (Wp.skip_inv h1).2
 | _ + 1, .norm .., fr, h1, h2 => h2 fr (Wp.skip_inv h1).2
 | _ + 1, .rangeM .., fr, h1, h2 => h2 fr (Wp.skip_inv h1).2

end Go.Abs
