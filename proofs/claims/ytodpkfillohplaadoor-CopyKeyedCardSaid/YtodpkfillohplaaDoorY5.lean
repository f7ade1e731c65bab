/-
 Chapter 12, plain law: in how many ways some of so many points can be chosen, and which numbers choose them. No program in sight.
-/
import Derived.Test.YtodpkfillohplaaDoorY1
import Derived.Test.YtodpkfillohplaaDoorM1
set_option linter.all false
namespace Go.Abs
set_option maxRecDepth 10000
def capK : Nat := 1000000000001
def wayT : Nat → Nat → Nat
 | 0, 0 => 1
 | 0, _ + 1 => 0
 | _ + 1, 0 => 1
 | p + 1, k + 1 => min capK (wayT p (k + 1) + wayT p k)
def sumW (p : Nat) : Nat → Nat
 | 0 => 0
 | k + 1 => min capK (sumW p k + wayT p k)
def chN : Nat → Nat → Nat
 | 0, 0 => 1
 | 0, _ + 1 => 0
 | _ + 1, 0 => 1
 | p + 1, k + 1 => chN p (k + 1) + chN p k
def chS (p : Nat) : Nat → Nat
 | 0 => 0
 | k + 1 => chS p k + chN p k
def okX (t : Bool) (jf : Nat → Bool) (x : Nat) : Nat → Bool
 | 0 => true
 | p + 1 => okX t jf x p && (!jf p || (x.testBit p ^^ t))
def exX (t : Bool) (jf : Nat → Bool) (x : Nat) : Nat → Nat
 | 0 => 0
 | p + 1 => exX t jf x p + (!jf p && (x.testBit p ^^ t)).toNat
def gapX (jf : Nat → Bool) : Nat → Nat
 | 0 => 0
 | p + 1 => gapX jf p + (!jf p).toNat
def goodX (t : Bool) (jf : Nat → Bool) (p m x : Nat) : Bool := okX t jf x p && decide (exX t jf x p < m)
theorem filter_len_congr {α : Type} {p q : α → Bool} {l : List α} (h : ∀ x ∈ l, p x = q x) : (l.filter p).length = (l.filter q).length := by
 rw [List.filter_congr h]
theorem range_two (p : Nat) : List.range (2 ^ (p + 1)) = List.range (2 ^ p) ++ (List.range (2 ^ p)).map (2 ^ p + ·) := by
 rw [Nat.pow_succ, show 2 ^ p * 2 = 2 ^ p + 2 ^ p by omega, List.range_add]
def numX (t : Bool) (jf : Nat → Bool) (p : Nat) (q : Option Nat) : Nat := rowTo (fun j => (jf j || decide (some j = q)) ^^ t) p
def andA : List Nat → Nat
 | [] => 0
 | r :: l => l.foldl (· &&& ·) r
end Go.Abs
