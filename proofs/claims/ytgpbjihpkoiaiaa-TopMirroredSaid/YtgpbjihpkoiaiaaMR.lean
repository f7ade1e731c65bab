/-
 Round after round: what repeats a design, from any pick on, has the same least repeat and the same longest floats: plain Lean, no program in sight.
-/
import Derived.Test.YtgpbjihpkoiaiaaM7
set_option linter.all false
namespace Go.Abs
set_option maxRecDepth 10000
theorem same_gen {l l' : List Bool} (hl : 0 < l.length) (hl' : 0 < l'.length) (hf : ∀ i n,LenIs l i n → begs l i = true → ∃ j,LenIs l' j n ∧ gb l' j = gb l i ∧ begs l' j = true) (he : (∀ i,gb l i = gb l 0) → ∀ i,gb l' i = gb l 0) : SameRuns l l' := by
 intro x hx;rcases runsT_mem.1 hx with ⟨i,hi,hb,rfl⟩ | ⟨ha,rfl⟩
 ·obtain ⟨j,h1,h2,h3⟩ := hf i _ (lenT_is hb) hb
  have h4 := h1.mod;have hb' : begs l' (j % l'.length) = true := by rw [begs_mod]; exact h3
  refine ⟨runAt l' (j % l'.length),runsT_mem.2 (.inl ⟨_,Nat.mod_lt _ hl',hb',rfl⟩),?_,?_⟩
  ·unfold runAt; dsimp only; rw [gb_mod]; exact h2
  ·unfold runAt; dsimp only
   exact (lenT_is hb').eq h4
 ·have h := he ((endless_iff hl).1 ha)
  have h' : anyTo l' l'.length = false := (endless_iff hl').2 fun i => by rw [h i,h 0]
  exact ⟨⟨0,1000,gb l' 0⟩,runsT_mem.2 (.inr ⟨h',rfl⟩),h 0,rfl⟩
structure Times (l l' : List Bool) (s r : Nat) : Prop where
 pos : 0 < l.length
 r1 : 1 ≤ r
 len : l'.length = l.length * r
 at' : ∀ i,gb l' i = gb l (i + s)
theorem Times.pos' {l l' : List Bool} {s r : Nat} (h : Times l l' s r) : 0 < l'.length := by
 rw [h.len]; exact Nat.mul_pos h.pos (by have := h.r1; omega)
theorem Times.last {l l' : List Bool} {s r : Nat} (h : Times l l' s r) (i : Nat) : gb l' (i + l'.length - 1) = gb l (i + s + l.length - 1) := by
 have h1 := h.pos;have h2 := h.r1;have h3 : l.length * r = l.length * (r - 1) + l.length := by
  conv => lhs; rw [show r = r - 1 + 1 by omega]
  exact Nat.mul_succ _ _
 rw [h.at',h.len,show i + l.length * r - 1 + s = i + s + l.length - 1 + l.length * (r - 1) by omega,gb_mul]
theorem Times.to {l l' : List Bool} {s r : Nat} (h : Times l l' s r) : SameRuns l l' := by
 have h1 := h.pos;refine same_gen h1 h.pos' (fun i n hL hb => ?_) fun he i => by rw [h.at',he]
 have hs : s ≤ l.length * s := Nat.le_mul_of_pos_left s h1;have hle : l.length ≤ l'.length := by rw [h.len]; exact Nat.le_mul_of_pos_right _ h.r1
 have key : ∀ k,gb l' (i + l.length * s - s + k) = gb l (i + k) := fun k => by
  rw [h.at',show i + l.length * s - s + k + s = i + k + l.length * s by omega,gb_mul]
 have key0 : gb l' (i + l.length * s - s) = gb l i := by
  have := key 0;simpa using this
 refine ⟨i + l.length * s - s,⟨hL.pos,by have := hL.lt; omega,fun k hk => ?_,?_⟩,key0,?_⟩
 ·rw [key k,key0]; exact hL.same k hk
 ·rw [key n,key0]; exact hL.other
 ·unfold begs at *
  rw [key0,h.last,show i + l.length * s - s + s + l.length - 1 = i + l.length - 1 + l.length * s by omega,gb_mul]
  exact hb
theorem Times.back {l l' : List Bool} {s r : Nat} (h : Times l l' s r) : SameRuns l' l := by
 have h1 := h.pos;refine same_gen h.pos' h1 (fun i n hL hb => ?_) fun he i => ?_
 ·have key : ∀ k,gb l (i + s + k) = gb l' (i + k) := fun k => by rw [h.at']; congr 1; omega
  have key0 : gb l (i + s) = gb l' i := by
   have := key 0;simpa using this
  have hb2 : gb l' i ≠ gb l (i + s + l.length - 1) := by
   rw [← h.last];simpa [begs] using hb
  refine ⟨i + s,⟨hL.pos,?_,fun k hk => ?_,?_⟩,key0,?_⟩
  ·apply Classical.byContradiction
   intro hn;have h2 := hL.same (l.length - 1) (by omega)
   rw [← key] at h2;exact hb2 (by rw [show i + s + l.length - 1 = i + s + (l.length - 1) by omega,h2])
  ·rw [key,key0]; exact hL.same k hk
  ·rw [key,key0]; exact hL.other
  ·unfold begs
   rw [key0];simpa using hb2
 ·have hs : s ≤ l.length * s := Nat.le_mul_of_pos_left s h1
  have h2 := h.at' (i + l.length * s - s);rw [show i + l.length * s - s + s = i + l.length * s by omega,gb_mul] at h2
  rw [← h2,he]
def roundsN (d : DesN) (f r : Nat) : DesN := ⟨d.hk,(List.range (d.rows.length * r)).map fun i => d.rows.getD ((f + i) % d.rows.length) 0⟩
end Go.Abs
