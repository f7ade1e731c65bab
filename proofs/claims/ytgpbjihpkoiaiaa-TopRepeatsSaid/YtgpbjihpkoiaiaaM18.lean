/-
 Designs twice, beside or above themselves, and point repeats: plain Lean, no program in sight.
-/
import Derived.Test.YtgpbjihpkoiaiaaM9a
import Derived.Test.YtgpbjihpkoiaiaaV3
set_option linter.all false
namespace Go.Abs
set_option maxRecDepth 10000
theorem perT_is {n : Nat} {P : Nat → Bool} (h1 : 1 ≤ n) (hP : P n = true) : perAt n P (perT n P) = true ∧ ∀ k, k < perT n P → perAt n P k = false := by
 unfold perT;cases hf : (List.range n).find? (perAt n P) with
 | none =>
  rw [List.find?_eq_none] at hf;refine ⟨?_, fun k hk => ?_⟩
  ·unfold perAt
   simp [hP, h1]
  ·have := hf k (List.mem_range.2 hk)
   simpa using this
 | some m =>
  have h2 := List.find?_some hf;rw [List.find?_eq_some_iff_getElem] at hf;obtain ⟨_, i, hi, he, hj⟩ := hf;simp only [List.getElem_range] at he;subst he;refine ⟨h2, fun k hk => ?_⟩
  have := hj k hk;simpa using this
theorem least_facts {d : DesN} (hd : d.Ok) : (1 ≤ leastP d ∧ leastP d ≤ d.rows.length ∧ d.rows.length % leastP d = 0) ∧ (1 ≤ leastH d ∧ leastH d ≤ d.hk ∧ d.hk % leastH d = 0) ∧
  ∀ i j, i < d.rows.length → j < d.hk → atN d i j = atN d (i % leastP d) (j % leastH d) := by
 have hr := hd.r1;have hh := hd.h1;obtain ⟨a1, _⟩ := perT_is (n := d.rows.length) (P := wholeR (pickR d) d.rows.length) hr (whole_self _ _);obtain ⟨b1, _⟩ := perT_is (n := d.hk) (P := wholeR (hookR d) d.hk) hh (whole_self _ _);have a2 := perT_in (n := d.rows.length) (P := wholeR (pickR d) d.rows.length) hr;have b2 := perT_in (n := d.hk) (P := wholeR (hookR d) d.hk) hh;rw [← leastP_eq hd] at a1 a2;rw [← leastH_eq hd] at b1 b2;unfold perAt at a1 b1;simp only [Bool.and_eq_true, decide_eq_true_eq] at a1 b1;refine ⟨⟨a1.1.1, a2.2, a1.1.2⟩, ⟨b1.1.1, b2.2, b1.1.2⟩, fun i j hi hj => ?_⟩
 have e1 := wholeR_iff.1 a1.2 i hi;have e2 := wholeR_iff.1 b1.2 j hj;have hi' : i % leastP d < d.rows.length := by have := Nat.mod_le i (leastP d); omega
 have hj' : j % leastH d < d.hk := by have := Nat.mod_le j (leastH d); omega
 rw [← atN_pick hd hi, e1, atN_pick hd hi', ← atN_hook hd hj, e2, atN_hook hd hj']
end Go.Abs
