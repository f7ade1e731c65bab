/-
 Chapter 1: how tables differ, point by point: plain laws.
-/
import Derived.Test.YtkjlmfabhejbnaaDoorB7
set_option linter.all false
namespace Go.Abs
set_option maxRecDepth 10000
theorem bits_step (x n : Nat) : bitsN x (n + 1) = bitsN x n + (if x.testBit n then 1 else 0) := by
 unfold bitsN;rw [List.range_succ, List.filter_append, List.length_append, List.filter_cons, List.filter_nil];split <;> rfl
theorem bits_none {x : Nat} : ∀ {n : Nat}, bitsN x n = 0 → ∀ j, j < n → x.testBit j = false
 | 0, _, j, h => by omega
 | n + 1, h, j, hj => by
  rw [bits_step] at h;by_cases e : j = n
  ·subst e
   cases hx : x.testBit j with
   | false => rfl
   | true => rw [hx] at h; simp at h
  ·have h0 : bitsN x n = 0 := by omega
   exact bits_none h0 j (by omega)
theorem bits_up {x n m : Nat} (hx : x < 2 ^ n) : bitsN x (n + m) = bitsN x n := by
 induction m with
 | zero => rfl
 | succ m ih =>
  rw [show n + (m + 1) = n + m + 1 by omega, bits_step, ih, Nat.testBit_lt_two_pow (Nat.lt_of_lt_of_le hx (Nat.pow_le_pow_right (by omega) (by omega)))]
  simp
theorem low_at {x k : Nat} (hb : x.testBit k = true) (h0 : bitsN x k = 0) : lowN x = k := by
 have hx : x ≠ 0 := by
  rintro rfl;rw [Nat.zero_testBit] at hb; cases hb
 obtain ⟨h1, h2⟩ := lowN_is hx;rcases Nat.lt_trichotomy (lowN x) k with g | g | g
 ·rw [bits_none h0 _ g] at h1; cases h1
 ·exact g
 ·have := h2 k g
  rw [hb] at this; cases this
noncomputable def pickT (a b : DesN) (i k : Nat) : Nat × Nat := if manyT a b i = 0 ∧ bitsN (xorAt a b i) k ≠ 0 then (i, lowN (xorAt a b i)) else firstT a b i
theorem pickT_zero (a b : DesN) (i : Nat) : pickT a b i 0 = firstT a b i := by
 unfold pickT;rw [if_neg (by simp [bitsN])]
theorem pickT_same {a b : DesN} {i k : Nat} (h : (xorAt a b i).testBit k = false) : pickT a b i (k + 1) = pickT a b i k ∧ bitsN (xorAt a b i) (k + 1) = bitsN (xorAt a b i) k := by
 have e : bitsN (xorAt a b i) (k + 1) = bitsN (xorAt a b i) k := by rw [bits_step, h]; simp
 unfold pickT;rw [e];exact ⟨rfl, rfl⟩
theorem pickT_new {a b : DesN} {i k : Nat} (h : (xorAt a b i).testBit k = true) (h0 : manyT a b i + bitsN (xorAt a b i) k = 0) : pickT a b i (k + 1) = (i, k) := by
 unfold pickT;rw [if_pos ⟨by omega, by rw [bits_step, h]; simp⟩, low_at h (by omega)]
theorem pickT_old {a b : DesN} {i k : Nat} (h : (xorAt a b i).testBit k = true) (h0 : manyT a b i + bitsN (xorAt a b i) k ≠ 0) : pickT a b i (k + 1) = pickT a b i k := by
 unfold pickT;by_cases hm : manyT a b i = 0
 ·rw [if_pos ⟨hm, by rw [bits_step, h]; simp⟩, if_pos ⟨hm, by omega⟩]
 ·rw [if_neg fun h => hm h.1, if_neg fun h => hm h.1]
theorem pickT_end {a b : DesN} {i k : Nat} (hk : k ≤ 24) (h : xorAt a b i < 2 ^ k) : pickT a b i k = firstT a b (i + 1) ∧ manyT a b i + bitsN (xorAt a b i) k = manyT a b (i + 1) := by
 have e : bitsN (xorAt a b i) 24 = bitsN (xorAt a b i) k := by
  have := bits_up (m := 24 - k) h
  rwa [show k + (24 - k) = 24 by omega] at this
 constructor
 ·show (if manyT a b i = 0 ∧ bitsN (xorAt a b i) k ≠ 0 then _ else _) = if manyT a b i = 0 ∧ xorAt a b i ≠ 0 then _ else _
  have : bitsN (xorAt a b i) k ≠ 0 ↔ xorAt a b i ≠ 0 := by
   constructor
   ·intro h1 h2
    rw [h2] at h1;exact h1 (by simp [bitsN])
   ·intro h1 h2
    apply h1;apply Nat.eq_of_testBit_eq;intro j;rw [Nat.zero_testBit];rcases Nat.lt_or_ge j k with g | g
    ·exact bits_none h2 j g
    ·exact Nat.testBit_lt_two_pow (Nat.lt_of_lt_of_le h (Nat.pow_le_pow_right (by omega) g))
  simp only [this]
 ·show _ = manyT a b i + bitsN (xorAt a b i) 24
  rw [e]
theorem xor_bit (a b : DesN) (i k : Nat) : (xorAt a b i).testBit k = ((a.rows.getD i 0).testBit k ^^ (b.rows.getD i 0).testBit k) := by
 unfold xorAt;rw [Nat.testBit_xor]
end Go.Abs
