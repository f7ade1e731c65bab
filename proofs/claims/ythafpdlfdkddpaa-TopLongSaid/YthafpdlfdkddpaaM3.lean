/-
  Rows out of points, in plain Lean: no program in sight.
-/
import Derived.Test.YthafpdlfdkddpaaM1
set_option linter.all false
namespace Go.Abs
set_option maxRecDepth 10000

/-- the row whose first so many points are these -/
def rowTo (g : Nat → Bool) : Nat → Nat
  | 0 => 0
  | n + 1 => rowTo g n ||| (if g n then 2 ^ n else 0)
theorem rowTo_bit (g : Nat → Bool) (n j : Nat) : (rowTo g n).testBit j = (decide (j < n) && g j) := by
  induction n with
  | zero => simp [rowTo]
  | succ n ih =>
    unfold rowTo
    rw [Nat.testBit_or, ih]
    by_cases hj : j = n
    · subst hj
      cases hg : g j <;> simp [hg, Nat.testBit_two_pow]
    · have hne : ¬ n = j := fun e => hj e.symm
      have e2 : (if g n then 2 ^ n else 0 : Nat).testBit j = false := by
        cases hg : g n
        · simp
        · simp [Nat.testBit_two_pow, hne]
      rw [e2, Bool.or_false]
      congr 1
      by_cases h1 : j < n
      · rw [decide_eq_true h1, decide_eq_true (by omega)]
      · rw [decide_eq_false h1, decide_eq_false (by omega)]
theorem rowTo_lt (g : Nat → Bool) (n : Nat) : rowTo g n < 2 ^ n := by
  induction n with
  | zero => simp [rowTo]
  | succ n ih =>
    unfold rowTo
    have h1 : 2 ^ n < 2 ^ (n + 1) := Nat.pow_lt_pow_right (by omega) (by omega)
    refine Nat.or_lt_two_pow (by omega) ?_
    split
    · exact h1
    · exact Nat.pow_pos (by omega)
theorem row_eq {a b n : Nat} (ha : a < 2 ^ n) (hb : b < 2 ^ n) (h : ∀ j, j < n → a.testBit j = b.testBit j) : a = b := by
  apply Nat.eq_of_testBit_eq
  intro j
  by_cases hj : j < n
  · exact h j hj
  · have hp : 2 ^ n ≤ 2 ^ j := Nat.pow_le_pow_right (by omega) (by omega)
    rw [Nat.testBit_lt_two_pow (Nat.lt_of_lt_of_le ha hp), Nat.testBit_lt_two_pow (Nat.lt_of_lt_of_le hb hp)]
theorem rowTo_self {r n : Nat} (h : r < 2 ^ n) : rowTo r.testBit n = r := row_eq (rowTo_lt _ _) h fun j hj => by
  rw [rowTo_bit, decide_eq_true hj, Bool.true_and]
theorem rowTo_congr {g g' : Nat → Bool} {n : Nat} (h : ∀ j, j < n → g j = g' j) : rowTo g n = rowTo g' n := row_eq (rowTo_lt _ _) (rowTo_lt _ _) fun j hj => by
  rw [rowTo_bit, rowTo_bit, h j hj]
/-- the points of a row, as the document's text makes them -/
theorem testBit_half (r h : Nat) : r.testBit h = decide (r / 2 ^ h % 2 = 1) := Nat.testBit_eq_decide_div_mod_eq
/-- a row out of points, from the highest one on -/
def rowOf (l : List Bool) : Nat := l.foldr (fun b a => a * 2 + if b then 1 else 0) 0
theorem rowOf_cons (b : Bool) (l : List Bool) : rowOf (b :: l) = rowOf l * 2 + if b then 1 else 0 := rfl
theorem rowOf_lt (l : List Bool) : rowOf l < 2 ^ l.length := by
  induction l with
  | nil => simp [rowOf]
  | cons b l ih =>
    rw [rowOf_cons, List.length_cons, Nat.pow_succ]
    split <;> omega
theorem rowOf_bit (l : List Bool) : ∀ j, (rowOf l).testBit j = l.getD j false := by
  induction l with
  | nil => intro j; simp [rowOf]
  | cons b l ih =>
    intro j
    rw [rowOf_cons]
    match j with
    | 0 => rw [Nat.testBit_zero]; cases b <;> simp <;> omega
    | j + 1 =>
      rw [Nat.testBit_succ]
      have : (rowOf l * 2 + if b then 1 else 0) / 2 = rowOf l := by split <;> omega
      rw [this, ih]; simp
end Go.Abs
