/-
 Chapter 12, plain law: the key of a card, hole by hole. No program in sight.
-/
import Derived.Test.YtodpkfillohplaaDoorM20
import Derived.Test.YtodpkfillohplaaDoorY1
set_option linter.all false
namespace Go.Abs
set_option maxRecDepth 10000
theorem bitsN_succ (x n : Nat) : bitsN x (n + 1) = bitsN x n + (x.testBit n).toNat := by
 unfold bitsN;rw [List.range_succ, List.filter_append, List.length_append];cases h : x.testBit n <;> simp [h]
def sumB (x : Nat) : Nat → Nat
 | 0 => 0
 | n + 1 => sumB x n + (if x.testBit n then n else 0)
noncomputable def lowN (x : Nat) : Nat := open Classical in if h : x ≠ 0 then (low_ex h).choose else 0
def clr (x : Nat) : Nat := x &&& (x - 1)
def itR (r : Nat) : Nat → Nat
 | 0 => r
 | i + 1 => clr (itR r i)
noncomputable def itS (r : Nat) : Nat → Nat
 | 0 => 0
 | i + 1 => itS r i + lowN (itR r i)
def keyN (r : Nat) : Nat := bitsN r 24 + 100 * sumB r 24
def keyTo (r : Nat) : Nat → Nat
 | 0 => 0
 | h + 1 => keyTo r h + (if r.testBit h then 1 + 100 * h else 0)
end Go.Abs
