/-
 Chapter 12, plain law: rows that are turned, joined, and what they lost. No program in sight.
-/
import Derived.Test.YtodpkfillohplaaDoorM20
set_option linter.all false
namespace Go.Abs
set_option maxRecDepth 10000
def turnR (t : Bool) (hk r : Nat) : Nat := if t then r ^^^ (2 ^ hk - 1) else r
theorem turnR_bit {t : Bool} {hk r j : Nat} (h : j < hk) : (turnR t hk r).testBit j = (r.testBit j ^^ t) := by
 unfold turnR;cases t
 ·simp
 ·simp [Nat.testBit_xor, Nat.testBit_two_pow_sub_one, h]
theorem turnR_lt {t : Bool} {hk r : Nat} (h : r < 2 ^ hk) : turnR t hk r < 2 ^ hk := by
 unfold turnR;have hp : 0 < 2 ^ hk := Nat.pow_pos (by omega)
 split
 ·exact Nat.xor_lt_two_pow h (by omega)
 ·exact h
theorem turnR_twice (t : Bool) (hk r : Nat) : turnR t hk (turnR t hk r) = r := by
 unfold turnR;cases t
 ·simp
 ·simp [Nat.xor_assoc]
def subN (x y : Nat) : Nat := x ^^^ (x &&& y)
theorem subN_bit (x y j : Nat) : (subN x y).testBit j = (x.testBit j && !y.testBit j) := by
 unfold subN;rw [Nat.testBit_xor, Nat.testBit_and];cases x.testBit j <;> cases y.testBit j <;> rfl
theorem subN_lt {x y n : Nat} (h : x < 2 ^ n) : subN x y < 2 ^ n := by
 unfold subN;exact Nat.xor_lt_two_pow h (Nat.lt_of_le_of_lt Nat.and_le_left h)
theorem subN_zero {x y : Nat} : subN x y = 0 ↔ ∀ j, x.testBit j = true → y.testBit j = true := by
 constructor
 ·intro h j hj
  have := subN_bit x y j;rw [h, Nat.zero_testBit, hj, Bool.true_and] at this;cases hy : y.testBit j
  ·rw [hy] at this; cases this
  ·rfl
 ·intro h
  apply Nat.eq_of_testBit_eq;intro j;rw [subN_bit, Nat.zero_testBit];cases hx : x.testBit j
  ·rfl
  ·rw [h j hx]; rfl
def orAll : List Nat → Nat
 | [] => 0
 | r :: l => r ||| orAll l
theorem orAll_bit (l : List Nat) (j : Nat) : (orAll l).testBit j = l.any fun r => r.testBit j := by
 induction l with
 | nil => simp [orAll]
 | cons r l ih => simp [orAll, Nat.testBit_or, ih]
theorem orAll_snoc (l : List Nat) (r : Nat) : orAll (l ++ [r]) = orAll l ||| r := by
 apply Nat.eq_of_testBit_eq;intro j;rw [orAll_bit, Nat.testBit_or, orAll_bit];simp
theorem orAll_lt {l : List Nat} {n : Nat} (h : ∀ r ∈ l, r < 2 ^ n) : orAll l < 2 ^ n := by
 induction l with
 | nil => exact Nat.pow_pos (by omega)
 | cons r l ih =>
  unfold orAll;exact Nat.or_lt_two_pow (h r (by simp)) (ih fun x hx => h x (by simp [hx]))
def lostT (a b : Nat → Nat) : Nat → Nat
 | 0 => 0
 | i + 1 => lostT a b i + bitsN (subN (a i) (b i)) 24
theorem lostT_le (a b : Nat → Nat) : ∀ i, lostT a b i ≤ 24 * i
 | 0 => Nat.le_refl _
 | i + 1 => by
  have h1 := lostT_le a b i;have h2 : bitsN (subN (a i) (b i)) 24 ≤ 24 := by
   unfold bitsN;exact Nat.le_trans (List.length_filter_le _ _) (by simp)
  unfold lostT;omega
end Go.Abs
