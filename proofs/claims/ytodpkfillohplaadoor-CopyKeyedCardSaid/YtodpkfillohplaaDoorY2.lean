/-
 Chapter 12, plain law: the key of a card, hole by hole. No program in sight.
-/
import Derived.Test.YtodpkfillohplaaDoorM20
import Derived.Test.YtodpkfillohplaaDoorY1
set_option linter.all false
namespace Go.Abs
set_option maxRecDepth 10000
theorem bitsN_succ (x n : Nat) : bitsN x (n + 1) = bitsN x n + (x.testBit n).toNat := by
 unfold bitsN;rw [List.range_succ, List.filter_append, List.length_append];cases h : x.testBit n <;> simp [h]
def sumB (x : Nat) : Nat → Nat
 | 0 => 0
 | n + 1 => sumB x n + (if x.testBit n then n else 0)
noncomputable def lowN (x : Nat) : Nat := open Classical in if h : x ≠ 0 then (low_ex h).choose else 0
theorem lowN_is {x : Nat} (h : x ≠ 0) : LowBit x (lowN x) := by
 unfold lowN;rw [dif_pos h];exact (low_ex h).choose_spec
def clr (x : Nat) : Nat := x &&& (x - 1)
theorem clr_bit {x k : Nat} (h : LowBit x k) (j : Nat) : (clr x).testBit j = (x.testBit j && !(j == k)) := by
 have hm : x % 2 ^ k = 0 := by
  apply Nat.eq_of_testBit_eq;intro i;rw [Nat.testBit_mod_two_pow, Nat.zero_testBit];by_cases hi : i < k
  ·rw [h.none i hi, Bool.and_false]
  ·rw [decide_eq_false hi, Bool.false_and]
 have hodd : x / 2 ^ k % 2 = 1 := by
  have := h.at';rw [Nat.testBit_eq_decide_div_mod_eq] at this;exact of_decide_eq_true this
 have hp : 0 < 2 ^ k := Nat.pow_pos (by omega)
 have hdm := Nat.div_add_mod x (2 ^ k);rw [hm, Nat.add_zero] at hdm;have hq : 1 ≤ x / 2 ^ k := by
  rcases Nat.eq_zero_or_pos (x / 2 ^ k) with h0 | h0
  ·rw [h0] at hodd; simp at hodd
  ·exact h0
 have hx1 : x - 1 = 2 ^ k * (x / 2 ^ k - 1) + (2 ^ k - 1) := by
  have : 2 ^ k * (x / 2 ^ k) = 2 ^ k * (x / 2 ^ k - 1) + 2 ^ k := by
   rw [← Nat.mul_succ, Nat.succ_eq_add_one, Nat.sub_add_cancel hq]
  omega
 unfold clr;rw [Nat.testBit_and];rcases Nat.lt_trichotomy j k with hi | hi | hi
 ·rw [h.none j hi, Bool.false_and, Bool.false_and]
 ·subst hi
  have : (x - 1).testBit j = false := by
   rw [hx1, Nat.testBit_two_pow_mul_add _ (by omega), if_neg (by omega), Nat.sub_self, Nat.testBit_zero]
   rw [decide_eq_false (by omega)]
  rw [this]; simp
 ·have h1 : (x - 1).testBit j = x.testBit j := by
   rw [hx1, Nat.testBit_two_pow_mul_add _ (by omega), if_neg (by omega)]
   have h2 : x.testBit j = (x / 2 ^ k).testBit (j - k) := by
    rw [Nat.testBit_div_two_pow, show j - k + k = j by omega]
   rw [h2];obtain ⟨i, hj⟩ : ∃ i, j - k = i + 1 := ⟨j - k - 1, by omega⟩
   rw [hj, Nat.testBit_succ, Nat.testBit_succ]
   congr 1
   omega
  have hne : (j == k) = false := by simp; omega
  rw [h1, hne];cases x.testBit j <;> rfl
theorem clr_le (x : Nat) : clr x ≤ x := Nat.and_le_left
theorem clr_count {x k : Nat} (h : LowBit x k) : ∀ n, bitsN x n = bitsN (clr x) n + (if k < n then 1 else 0) ∧ sumB x n = sumB (clr x) n + (if k < n then k else 0)
 | 0 => by simp [bitsN, sumB]
 | n + 1 => by
  obtain ⟨i1, i2⟩ := clr_count h n;have hb := clr_bit h n;rw [bitsN_succ, bitsN_succ];simp only [sumB];rcases Nat.lt_trichotomy k n with hk | hk | hk
  ·have hne : (n == k) = false := by simp; omega
   rw [hne] at hb;simp only [Bool.not_false, Bool.and_true] at hb;rw [if_pos hk] at i1 i2;rw [hb, i1, i2, if_pos (show k < n + 1 by omega), if_pos (show k < n + 1 by omega)]
   omega
  ·subst hk
   rw [if_neg (Nat.lt_irrefl _)] at i1 i2;rw [h.at'] at hb ⊢;simp only [beq_self_eq_true, Bool.not_true, Bool.and_false] at hb;rw [hb, i1, i2, if_pos (show k < k + 1 by omega), if_pos (show k < k + 1 by omega)]
   simp
  ·have hne : (n == k) = false := by simp; omega
   rw [hne] at hb;simp only [Bool.not_false, Bool.and_true] at hb;rw [if_neg (show ¬ k < n by omega)] at i1 i2
   rw [hb, i1, i2, if_neg (show ¬ k < n + 1 by omega), if_neg (show ¬ k < n + 1 by omega)]
   omega
theorem clr_step {x : Nat} (h : x ≠ 0) (hx : x < 2 ^ 24) : bitsN x 24 = bitsN (clr x) 24 + 1 ∧ sumB x 24 = sumB (clr x) 24 + lowN x := by
 have hl := lowN_is h;have hk := hl.lt hx;have := clr_count hl 24;rw [if_pos hk, if_pos hk] at this;exact this
def itR (r : Nat) : Nat → Nat
 | 0 => r
 | i + 1 => clr (itR r i)
noncomputable def itS (r : Nat) : Nat → Nat
 | 0 => 0
 | i + 1 => itS r i + lowN (itR r i)
theorem itR_lt {r : Nat} (h : r < 2 ^ 24) : ∀ i, itR r i < 2 ^ 24
 | 0 => h
 | i + 1 => Nat.lt_of_le_of_lt (clr_le _) (itR_lt h i)
theorem bits_zero {x n : Nat} (hx : x < 2 ^ n) : bitsN x n = 0 ↔ x = 0 := by
 constructor
 ·intro h
  apply Nat.eq_of_testBit_eq;intro j;rw [Nat.zero_testBit];by_cases hj : j < n
  ·unfold bitsN at h
   have := List.eq_nil_of_length_eq_zero h;rw [List.filter_eq_nil_iff] at this;simpa using this j (List.mem_range.2 hj)
  ·exact Nat.testBit_lt_two_pow (Nat.lt_of_lt_of_le hx (Nat.pow_le_pow_right (by omega) (by omega)))
 ·rintro rfl
  simp [bitsN]
theorem sum_zero (n : Nat) : sumB 0 n = 0 := by
 induction n with
 | zero => rfl
 | succ n ih => simp [sumB, ih]
theorem it_inv {r : Nat} (h : r < 2 ^ 24) : ∀ i, i ≤ bitsN r 24 → bitsN (itR r i) 24 + i = bitsN r 24 ∧ sumB (itR r i) 24 + itS r i = sumB r 24
 | 0, _ => ⟨rfl, rfl⟩
 | i + 1, hi => by
  obtain ⟨h1, h2⟩ := it_inv h i (by omega)
  have hne : itR r i ≠ 0 := fun e => by
   rw [(bits_zero (itR_lt h i)).2 e] at h1; omega
  obtain ⟨c1, c2⟩ := clr_step hne (itR_lt h i);unfold itR itS;omega
theorem it_end {r : Nat} (h : r < 2 ^ 24) : itR r (bitsN r 24) = 0 ∧ itS r (bitsN r 24) = sumB r 24 := by
 obtain ⟨h1, h2⟩ := it_inv h _ (Nat.le_refl _);have h0 : itR r (bitsN r 24) = 0 := (bits_zero (itR_lt h _)).1 (by omega)
 rw [h0, sum_zero] at h2;exact ⟨h0, by omega⟩
theorem it_ne {r i : Nat} (h : r < 2 ^ 24) (hi : i < bitsN r 24) : itR r i ≠ 0 := fun e => by
 obtain ⟨h1, _⟩ := it_inv h i (by omega)
 rw [(bits_zero (itR_lt h i)).2 e] at h1; omega
def keyN (r : Nat) : Nat := bitsN r 24 + 100 * sumB r 24
def keyTo (r : Nat) : Nat → Nat
 | 0 => 0
 | h + 1 => keyTo r h + (if r.testBit h then 1 + 100 * h else 0)
theorem sumB_le (r : Nat) : ∀ n, sumB r n ≤ n * n
 | 0 => Nat.le_refl _
 | n + 1 => by
  have := sumB_le r n;unfold sumB;have e : (n + 1) * (n + 1) = n * n + 2 * n + 1 := by rw [Nat.add_mul, Nat.mul_add]; omega
  split <;> omega
end Go.Abs
