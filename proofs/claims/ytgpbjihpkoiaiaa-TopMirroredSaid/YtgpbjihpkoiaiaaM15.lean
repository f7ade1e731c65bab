/-
 Points that go round, and what floats they have, in plain Lean: no program in sight.
-/
import Derived.Test.YtgpbjihpkoiaiaaV0
set_option linter.all false
namespace Go.Abs
set_option maxRecDepth 10000
theorem gb_mul (l : List Bool) (i s : Nat) : gb l (i + l.length * s) = gb l i := by
 unfold gb; rw [Nat.add_mul_mod_self_left]
theorem gb_congr {l : List Bool} {i j : Nat} (h : i % l.length = j % l.length) : gb l i = gb l j := by
 unfold gb; rw [h]
theorem LenIs.mod {l : List Bool} {i n : Nat} (h : LenIs l i n) : LenIs l (i % l.length) n where
 pos := h.pos
 lt := h.lt
 same := fun k hk => by rw [gb_mod,gb_congr (show (i % l.length + k) % l.length = (i + k) % l.length by rw [Nat.mod_add_mod])]; exact h.same k hk
 other := by rw [gb_mod,gb_congr (show (i % l.length + n) % l.length = (i + n) % l.length by rw [Nat.mod_add_mod])]; exact h.other
theorem runsT_mem {l : List Bool} {x : RunT} : x ∈ runsT l ↔ (∃ i,i < l.length ∧ begs l i = true ∧ x = runAt l i) ∨ (anyTo l l.length = false ∧ x = ⟨0,1000,gb l 0⟩) := by
 unfold runsT runsTo lastT;rw [List.mem_append];constructor
 ·rintro (h | h)
  ·obtain ⟨i,hi,rfl⟩ := List.mem_map.1 h
   obtain ⟨h1,h2⟩ := List.mem_filter.1 hi;exact .inl ⟨i,List.mem_range.1 h1,h2,rfl⟩
  ·split at h
   ·cases h
   ·rename_i h2
    exact .inr ⟨by simpa using h2,List.mem_singleton.1 h⟩
 ·rintro (⟨i,h1,h2,rfl⟩ | ⟨h1,rfl⟩)
  ·exact .inl (List.mem_map.2 ⟨i,List.mem_filter.2 ⟨List.mem_range.2 h1,h2⟩,rfl⟩)
  ·rw [h1]; exact .inr (by simp)
end Go.Abs
