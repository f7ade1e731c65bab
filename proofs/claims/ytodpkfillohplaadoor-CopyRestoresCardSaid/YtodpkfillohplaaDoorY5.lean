/-
 Chapter 12, plain law: in how many ways some of so many points can be chosen, and which numbers choose them. No program in sight.
-/
import Derived.Test.YtodpkfillohplaaDoorY1
import Derived.Test.YtodpkfillohplaaDoorM3
set_option linter.all false
namespace Go.Abs
set_option maxRecDepth 10000

def capK : Nat := 1000000000001
/-- in how many ways k of p points can be chosen, up to a bound -/
def wayT : Nat → Nat → Nat
 | 0, 0 => 1
 | 0, _ + 1 => 0
 | _ + 1, 0 => 1
 | p + 1, k + 1 => min capK (wayT p (k + 1) + wayT p k)
/-- of less than k -/
def sumW (p : Nat) : Nat → Nat
 | 0 => 0
 | k + 1 => min capK (sumW p k + wayT p k)
/-- without a bound -/
def chN : Nat → Nat → Nat
 | 0, 0 => 1
 | 0, _ + 1 => 0
 | _ + 1, 0 => 1
 | p + 1, k + 1 => chN p (k + 1) + chN p k
def chS (p : Nat) : Nat → Nat
 | 0 => 0
 | k + 1 => chS p k + chN p k
/-! ### Numbers that have some bits, and some more -/
/-- all bits below p that j has -/
def okX (t : Bool) (jf : Nat → Bool) (x : Nat) : Nat → Bool
 | 0 => true
 | p + 1 => okX t jf x p && (!jf p || (x.testBit p ^^ t))
/-- how many more -/
def exX (t : Bool) (jf : Nat → Bool) (x : Nat) : Nat → Nat
 | 0 => 0
 | p + 1 => exX t jf x p + (!jf p && (x.testBit p ^^ t)).toNat
def gapX (jf : Nat → Bool) : Nat → Nat
 | 0 => 0
 | p + 1 => gapX jf p + (!jf p).toNat
def goodX (t : Bool) (jf : Nat → Bool) (p m x : Nat) : Bool := okX t jf x p && decide (exX t jf x p < m)
theorem filter_len_congr {α : Type} {p q : α → Bool} {l : List α} (h : ∀ x ∈ l, p x = q x) : (l.filter p).length = (l.filter q).length := by
 rw [List.filter_congr h]
theorem range_two (p : Nat) : List.range (2 ^ (p + 1)) = List.range (2 ^ p) ++ (List.range (2 ^ p)).map (2 ^ p + ·) := by
 rw [Nat.pow_succ, show 2 ^ p * 2 = 2 ^ p + 2 ^ p by omega, List.range_add]
/-- the number that has just these bits, and one more -/
def numX (t : Bool) (jf : Nat → Bool) (p : Nat) (q : Option Nat) : Nat := rowTo (fun j => (jf j || decide (some j = q)) ^^ t) p
/-! ### what all of some numbers have, and what some have -/
def andA : List Nat → Nat
 | [] => 0
 | r :: l => l.foldl (· &&& ·) r
theorem foldl_and_bit (l : List Nat) (r j : Nat) : (l.foldl (· &&& ·) r).testBit j = (r.testBit j && l.all fun x => x.testBit j) := by
 induction l generalizing r with
 | nil => simp
 | cons x l ih => simp [ih, Nat.testBit_and, Bool.and_assoc]
theorem andA_bit {l : List Nat} (h : l ≠ []) (j : Nat) : (andA l).testBit j = l.all fun x => x.testBit j := by
 cases l with
 | nil => exact absurd rfl h
 | cons r l => simp [andA, foldl_and_bit]
theorem andA_snoc (l : List Nat) (x : Nat) : andA (l ++ [x]) = if l = [] then x else andA l &&& x := by
 cases l with
 | nil => rfl
 | cons r l => simp [andA]
theorem andA_lt {l : List Nat} {n : Nat} (h : ∀ r ∈ l, r < 2 ^ n) : andA l < 2 ^ n := by
 cases l with
 | nil => exact Nat.pow_pos (by omega)
 | cons r l =>
  refine Nat.lt_pow_two_of_testBit _ fun j hj => ?_
  rw [andA_bit (by simp)]
  have := h r (by simp)
  simp only [List.all_cons, Bool.and_eq_false_iff]
  exact .inl (Nat.testBit_lt_two_pow (Nat.lt_of_lt_of_le this (Nat.pow_le_pow_right (by omega) hj)))
end Go.Abs
