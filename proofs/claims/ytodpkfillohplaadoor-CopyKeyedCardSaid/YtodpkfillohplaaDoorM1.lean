/-
 Several texts: M1, M3.
-/
import Derived.Test.YtodpkfillohplaaDoorP1
set_option linter.all false
namespace Go.Abs
set_option maxRecDepth 10000
def gb (l : List Bool) (i : Nat) : Bool := l.getD (i % l.length) false
def begs (l : List Bool) (i : Nat) : Bool := gb l i != gb l (i + l.length - 1)
def lenT (l : List Bool) (i : Nat) : Nat := 1 + (List.range l.length).findIdx fun k => gb l (i + 1 + k) != gb l i
theorem gb_add (l : List Bool) (i : Nat) : gb l (i + l.length) = gb l i := by
 unfold gb; rw [Nat.add_mod_right]
structure LenIs (l : List Bool) (i n : Nat) : Prop where
 pos : 1 ≤ n
 lt : n < l.length
 same : ∀ k, k < n → gb l (i + k) = gb l i
 other : gb l (i + n) ≠ gb l i
theorem LenIs.eq {l : List Bool} {i n m : Nat} (h : LenIs l i n) (h' : LenIs l i m) : n = m := by
 rcases Nat.lt_trichotomy n m with h1 | h1 | h1
 ·exact absurd (h'.same n h1) h.other
 ·exact h1
 ·exact absurd (h.same m h1) h'.other
theorem LenIs.begs {l : List Bool} {i n : Nat} (h : LenIs l i n) : ∀ k, 1 ≤ k → k < n → Go.Abs.begs l (i + k) = false := fun k h1 h2 => by
 have a := h.same k h2;have b := h.same (k - 1) (by omega)
 have e : gb l (i + k + l.length - 1) = gb l (i + (k - 1)) := by
  rw [show i + k + l.length - 1 = i + (k - 1) + l.length by omega, gb_add]
 unfold Go.Abs.begs;rw [e, a, b]; simp
theorem LenIs.end {l : List Bool} {i n : Nat} (h : LenIs l i n) : Go.Abs.begs l (i + n) = true := by
 have b := h.same (n - 1) (by have := h.pos; omega)
 have e : gb l (i + n + l.length - 1) = gb l (i + (n - 1)) := by
  have := h.pos;rw [show i + n + l.length - 1 = i + (n - 1) + l.length by omega, gb_add]
 unfold Go.Abs.begs;rw [e, b];simpa using h.other
structure RunT where
 first : Nat
 len : Nat
 up : Bool
def RunT.av (x : RunT) : AV := .agg [iv (x.first : Int), iv (x.len : Int), .bool x.up]
def runAt (l : List Bool) (i : Nat) : RunT := ⟨i, lenT l i, gb l i⟩
def runsTo (l : List Bool) (i : Nat) : List RunT := ((List.range i).filter (begs l)).map (runAt l)
def runsFrom (l : List Bool) (i : Nat) : List RunT := ((List.range' i (l.length - i)).filter (begs l)).map (runAt l)
def anyTo (l : List Bool) (i : Nat) : Bool := (List.range i).any (begs l)
def lastT (l : List Bool) : List RunT := if anyTo l l.length then [] else [⟨0, 1000, gb l 0⟩]
def runsT (l : List Bool) : List RunT := runsTo l l.length ++ lastT l
end Go.Abs
set_option linter.all false
namespace Go.Abs
set_option maxRecDepth 10000
def rowTo (g : Nat → Bool) : Nat → Nat
 | 0 => 0
 | n + 1 => rowTo g n ||| (if g n then 2 ^ n else 0)
theorem rowTo_bit (g : Nat → Bool) (n j : Nat) : (rowTo g n).testBit j = (decide (j < n) && g j) := by
 induction n with
 | zero => simp [rowTo]
 | succ n ih =>
  unfold rowTo;rw [Nat.testBit_or, ih];by_cases hj : j = n
  ·subst hj
   cases hg : g j <;> simp [hg, Nat.testBit_two_pow]
  ·have hne : ¬ n = j := fun e => hj e.symm
   have e2 : (if g n then 2 ^ n else 0 : Nat).testBit j = false := by
    cases hg : g n
    ·simp
    ·simp [Nat.testBit_two_pow, hne]
   rw [e2, Bool.or_false]
   congr 1
   by_cases h1 : j < n
   ·rw [decide_eq_true h1, decide_eq_true (by omega)]
   ·rw [decide_eq_false h1, decide_eq_false (by omega)]
theorem rowTo_lt (g : Nat → Bool) (n : Nat) : rowTo g n < 2 ^ n := by
 induction n with
 | zero => simp [rowTo]
 | succ n ih =>
  unfold rowTo;have h1 : 2 ^ n < 2 ^ (n + 1) := Nat.pow_lt_pow_right (by omega) (by omega)
  refine Nat.or_lt_two_pow (by omega) ?_
  split
  ·exact h1
  ·exact Nat.pow_pos (by omega)
def rowOf (l : List Bool) : Nat := l.foldr (fun b a => a * 2 + if b then 1 else 0) 0
end Go.Abs
