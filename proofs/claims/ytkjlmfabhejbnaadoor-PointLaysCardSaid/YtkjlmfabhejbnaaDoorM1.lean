/-
 Several texts: M1, M3, M4.
-/
import Derived.Test.YtkjlmfabhejbnaaDoorP1
set_option linter.all false
namespace Go.Abs
set_option maxRecDepth 10000
def gb (l : List Bool) (i : Nat) : Bool := l.getD (i % l.length) false
def begs (l : List Bool) (i : Nat) : Bool := gb l i != gb l (i + l.length - 1)
def lenT (l : List Bool) (i : Nat) : Nat := 1 + (List.range l.length).findIdx fun k => gb l (i + 1 + k) != gb l i
theorem gb_lt {l : List Bool} {i : Nat} (h : i < l.length) : gb l i = l[i] := by
 unfold gb;rw [Nat.mod_eq_of_lt h, List.getD_eq_getElem?_getD, List.getElem?_eq_getElem h]; rfl
theorem gb_add (l : List Bool) (i : Nat) : gb l (i + l.length) = gb l i := by
 unfold gb; rw [Nat.add_mod_right]
theorem gb_get {l : List Bool} {i : Nat} (h : 0 < l.length) : l[i % l.length]? = some (gb l i) := by
 have := Nat.mod_lt i h;unfold gb;rw [List.getD_eq_getElem?_getD, List.getElem?_eq_getElem this]; rfl
structure LenIs (l : List Bool) (i n : Nat) : Prop where
 pos : 1 ≤ n
 lt : n < l.length
 same : ∀ k, k < n → gb l (i + k) = gb l i
 other : gb l (i + n) ≠ gb l i
theorem LenIs.eq {l : List Bool} {i n m : Nat} (h : LenIs l i n) (h' : LenIs l i m) : n = m := by
 rcases Nat.lt_trichotomy n m with h1 | h1 | h1
 ·exact absurd (h'.same n h1) h.other
 ·exact h1
 ·exact absurd (h.same m h1) h'.other
theorem LenIs.begs {l : List Bool} {i n : Nat} (h : LenIs l i n) : ∀ k, 1 ≤ k → k < n → Go.Abs.begs l (i + k) = false := fun k h1 h2 => by
 have a := h.same k h2;have b := h.same (k - 1) (by omega)
 have e : gb l (i + k + l.length - 1) = gb l (i + (k - 1)) := by
  rw [show i + k + l.length - 1 = i + (k - 1) + l.length by omega, gb_add]
 unfold Go.Abs.begs;rw [e, a, b]; simp
theorem LenIs.end {l : List Bool} {i n : Nat} (h : LenIs l i n) : Go.Abs.begs l (i + n) = true := by
 have b := h.same (n - 1) (by have := h.pos; omega)
 have e : gb l (i + n + l.length - 1) = gb l (i + (n - 1)) := by
  have := h.pos;rw [show i + n + l.length - 1 = i + (n - 1) + l.length by omega, gb_add]
 unfold Go.Abs.begs;rw [e, b];simpa using h.other
structure RunT where
 first : Nat
 len : Nat
 up : Bool
def RunT.av (x : RunT) : AV := .agg [iv (x.first : Int), iv (x.len : Int), .bool x.up]
def runAt (l : List Bool) (i : Nat) : RunT := ⟨i, lenT l i, gb l i⟩
def runsTo (l : List Bool) (i : Nat) : List RunT := ((List.range i).filter (begs l)).map (runAt l)
def runsFrom (l : List Bool) (i : Nat) : List RunT := ((List.range' i (l.length - i)).filter (begs l)).map (runAt l)
def anyTo (l : List Bool) (i : Nat) : Bool := (List.range i).any (begs l)
def lastT (l : List Bool) : List RunT := if anyTo l l.length then [] else [⟨0, 1000, gb l 0⟩]
def runsT (l : List Bool) : List RunT := runsTo l l.length ++ lastT l
end Go.Abs
set_option linter.all false
namespace Go.Abs
set_option maxRecDepth 10000
def rowTo (g : Nat → Bool) : Nat → Nat
 | 0 => 0
 | n + 1 => rowTo g n ||| (if g n then 2 ^ n else 0)
theorem rowTo_bit (g : Nat → Bool) (n j : Nat) : (rowTo g n).testBit j = (decide (j < n) && g j) := by
 induction n with
 | zero => simp [rowTo]
 | succ n ih =>
  unfold rowTo;rw [Nat.testBit_or, ih];by_cases hj : j = n
  ·subst hj
   cases hg : g j <;> simp [hg, Nat.testBit_two_pow]
  ·have hne : ¬ n = j := fun e => hj e.symm
   have e2 : (if g n then 2 ^ n else 0 : Nat).testBit j = false := by
    cases hg : g n
    ·simp
    ·simp [Nat.testBit_two_pow, hne]
   rw [e2, Bool.or_false]
   congr 1
   by_cases h1 : j < n
   ·rw [decide_eq_true h1, decide_eq_true (by omega)]
   ·rw [decide_eq_false h1, decide_eq_false (by omega)]
theorem rowTo_lt (g : Nat → Bool) (n : Nat) : rowTo g n < 2 ^ n := by
 induction n with
 | zero => simp [rowTo]
 | succ n ih =>
  unfold rowTo;have h1 : 2 ^ n < 2 ^ (n + 1) := Nat.pow_lt_pow_right (by omega) (by omega)
  refine Nat.or_lt_two_pow (by omega) ?_
  split
  ·exact h1
  ·exact Nat.pow_pos (by omega)
theorem row_eq {a b n : Nat} (ha : a < 2 ^ n) (hb : b < 2 ^ n) (h : ∀ j, j < n → a.testBit j = b.testBit j) : a = b := by
 apply Nat.eq_of_testBit_eq;intro j;by_cases hj : j < n
 ·exact h j hj
 ·have hp : 2 ^ n ≤ 2 ^ j := Nat.pow_le_pow_right (by omega) (by omega)
  rw [Nat.testBit_lt_two_pow (Nat.lt_of_lt_of_le ha hp), Nat.testBit_lt_two_pow (Nat.lt_of_lt_of_le hb hp)]
theorem rowTo_congr {g g' : Nat → Bool} {n : Nat} (h : ∀ j, j < n → g j = g' j) : rowTo g n = rowTo g' n := row_eq (rowTo_lt _ _) (rowTo_lt _ _) fun j hj => by
 rw [rowTo_bit, rowTo_bit, h j hj]
def rowOf (l : List Bool) : Nat := l.foldr (fun b a => a * 2 + if b then 1 else 0) 0
theorem rowOf_cons (b : Bool) (l : List Bool) : rowOf (b :: l) = rowOf l * 2 + if b then 1 else 0 := rfl
theorem rowOf_lt (l : List Bool) : rowOf l < 2 ^ l.length := by
 induction l with
 | nil => simp [rowOf]
 | cons b l ih =>
  rw [rowOf_cons, List.length_cons, Nat.pow_succ];split <;> omega
theorem rowOf_bit (l : List Bool) : ∀ j, (rowOf l).testBit j = l.getD j false := by
 induction l with
 | nil => intro j; simp [rowOf]
 | cons b l ih =>
  intro j;rw [rowOf_cons]
  match j with
  | 0 => rw [Nat.testBit_zero]; cases b <;> simp <;> omega
  | j + 1 =>
   rw [Nat.testBit_succ];have : (rowOf l * 2 + if b then 1 else 0) / 2 = rowOf l := by split <;> omega
   rw [this, ih]; simp
end Go.Abs
set_option linter.all false
namespace Go.Abs
set_option maxRecDepth 10000
def perAt (n : Nat) (P : Nat → Bool) (by' : Nat) : Bool := decide (1 ≤ by') && decide (n % by' = 0) && P by'
def perT (n : Nat) (P : Nat → Bool) : Nat := ((List.range n).find? (perAt n P)).getD n
end Go.Abs
