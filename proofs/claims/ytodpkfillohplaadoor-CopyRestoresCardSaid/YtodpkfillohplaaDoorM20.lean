/-
 The lowest bit of a word, by a table. Plain Lean: no program in sight.
-/
import Derived.Test.YtodpkfillohplaaDoorM19
set_option linter.all false
namespace Go.Abs
set_option maxRecDepth 10000

structure LowBit (x k : Nat) : Prop where
 at' : x.testBit k = true
 none : ∀ j, j < k → x.testBit j = false
theorem low_ex {x : Nat} (h0 : x ≠ 0) : ∃ k, LowBit x k := by
 have hex : ∃ k, x.testBit k = true := by
  refine Classical.byContradiction fun hc => h0 (Nat.eq_of_testBit_eq fun i => ?_)
  rw [Nat.zero_testBit]
  cases h : x.testBit i
  ·rfl
  ·exact absurd ⟨i, h⟩ hc
 obtain ⟨k, hk⟩ := hex
 induction k using Nat.strongRecOn with
 | ind k ih =>
  by_cases hm : ∃ m, m < k ∧ x.testBit m = true
  ·obtain ⟨m, h1, h2⟩ := hm
   exact ih m h1 h2
  ·refine ⟨k, hk, fun j hj => ?_⟩
   cases h : x.testBit j
   ·rfl
   ·exact absurd ⟨j, hj, h⟩ hm
theorem LowBit.lt {x k n : Nat} (h : LowBit x k) (hx : x < 2 ^ n) : k < n := by
 refine Nat.lt_of_not_le fun hle => ?_
 have := Nat.testBit_lt_two_pow (Nat.lt_of_lt_of_le hx (Nat.pow_le_pow_right (by omega) hle))
 rw [h.at'] at this; cases this
/-- a word and its negative have the lowest bit alone in common -/
theorem LowBit.neg {x k : Nat} (h : LowBit x k) (hx : x < 2 ^ 64) : x &&& (2 ^ 64 - x) = 2 ^ k := by
 have hk := h.lt hx
 -- x = 2^k * (2 m + 1)
 have hm : x % 2 ^ k = 0 := by
  apply Nat.eq_of_testBit_eq
  intro i
  rw [Nat.testBit_mod_two_pow, Nat.zero_testBit]
  by_cases hi : i < k
  ·rw [h.none i hi, Bool.and_false]
  ·rw [decide_eq_false hi, Bool.false_and]
 have hodd : x / 2 ^ k % 2 = 1 := by
  have := h.at'
  rw [Nat.testBit_eq_decide_div_mod_eq] at this
  exact of_decide_eq_true this
 have hx0 : 0 < x := by
  rcases Nat.eq_zero_or_pos x with h0 | h0
  ·subst h0; have := h.at'; rw [Nat.zero_testBit] at this; cases this
  ·exact h0
 have hp : 0 < 2 ^ k := Nat.pow_pos (by omega)
 have hdm := Nat.div_add_mod x (2 ^ k)
 rw [hm, Nat.add_zero] at hdm
 -- x - 1 = 2^k * (x / 2^k - 1) + (2^k - 1)
 have hq : 1 ≤ x / 2 ^ k := by
  rcases Nat.eq_zero_or_pos (x / 2 ^ k) with h0 | h0
  ·rw [h0] at hodd; simp at hodd
  ·exact h0
 have hx1 : x - 1 = 2 ^ k * (x / 2 ^ k - 1) + (2 ^ k - 1) := by
  have : 2 ^ k * (x / 2 ^ k) = 2 ^ k * (x / 2 ^ k - 1) + 2 ^ k := by
   rw [← Nat.mul_succ, Nat.succ_eq_add_one, Nat.sub_add_cancel hq]
  omega
 have hn : ∀ i, (2 ^ 64 - x).testBit i = (decide (i < 64) && !(x - 1).testBit i) := fun i => by
  have := Nat.testBit_two_pow_sub_succ (x := x - 1) (n := 64) (by omega) i
  rw [show x - 1 + 1 = x by omega] at this
  exact this
 apply Nat.eq_of_testBit_eq
 intro i
 rw [Nat.testBit_and, hn, Nat.testBit_two_pow]
 rcases Nat.lt_trichotomy i k with hi | hi | hi
 ·rw [h.none i hi, Bool.false_and, decide_eq_false (by omega)]
 ·subst hi
  have : (x - 1).testBit i = false := by
   rw [hx1, Nat.testBit_two_pow_mul_add _ (by omega), if_neg (by omega), Nat.sub_self, Nat.testBit_zero]
   rw [decide_eq_false (by omega)]
  rw [h.at', this, decide_eq_true hk]; simp
 ·have h1 : (x - 1).testBit i = x.testBit i := by
   rw [hx1, Nat.testBit_two_pow_mul_add _ (by omega), if_neg (by omega)]
   have h2 : x.testBit i = (x / 2 ^ k).testBit (i - k) := by
    rw [Nat.testBit_div_two_pow, show i - k + k = i by omega]
   rw [h2]
   obtain ⟨j, hj⟩ : ∃ j, i - k = j + 1 := ⟨i - k - 1, by omega⟩
   rw [hj, Nat.testBit_succ, Nat.testBit_succ]
   congr 1
   omega
  rw [h1, decide_eq_false (show ¬ k = i by omega)]
  cases x.testBit i <;> simp
end Go.Abs
