/-
 Several texts: Y15, Y16.
-/
import Derived.Test.YtodpkfillohplaaDoorX28
import Derived.Test.YtodpkfillohplaaDoorX19
import Derived.Test.YtodpkfillohplaaDoorW3
import Derived.Test.YtodpkfillohplaaDoorX14
set_option linter.all false
namespace Go.Abs
set_option maxRecDepth 10000
def inB (a b : List Nat) (n : Nat) : Prop := ∀ q, q < n → ∀ j, (atR a q).testBit j = true → (atR b q).testBit j = true
def worstS (s : List (List Nat)) (j : List Nat) (n : Nat) : Nat → Nat
 | 0 => 0
 | k + 1 => max (worstS s j n k) (lostV j (s.getD k []) n)
section
variable (x : PressB)
def rowsO (x : PressB) : List Nat := turnL (wayB x) (origN x).hk (origN x).rows
def setsO (x : PressB) (N : Nat) : List (List Nat) := setsN (wayB x) (origN x).hk (madeTo x N).l
def joinO (x : PressB) (N : Nat) : List Nat := joinN (setsO x N) (origN x).rows.length
end
theorem turnL_lt {t : Bool} {hk : Nat} {l : List Nat} (h : ∀ r ∈ l, r < 2 ^ hk) : ∀ r ∈ turnL t hk l, r < 2 ^ hk := fun r hr => by
 obtain ⟨y, hy, rfl⟩ := List.mem_map.1 hr;exact turnR_lt (h y hy)
theorem pickJ_lt {hk n m : Nat} {j : List Nat} {t : Bool} (lj : ∀ x ∈ j, x < 2 ^ hk) : (∀ r ∈ (if t then hiJ hk n m j else j), r < 2 ^ hk) ∧ ∀ r ∈ (if t then j else hiJ hk n m j), r < 2 ^ hk := by
 cases t
 ·exact ⟨lj, hiJ_lt lj⟩
 ·exact ⟨hiJ_lt lj, lj⟩
theorem pickJ_len {hk n m : Nat} {j : List Nat} {t : Bool} (lj : j.length = n) : (if t then hiJ hk n m j else j).length = n ∧ (if t then j else hiJ hk n m j).length = n := by
 cases t
 ·exact ⟨lj, hiJ_len lj⟩
 ·exact ⟨hiJ_len lj, lj⟩
end Go.Abs
set_option linter.all false
namespace Go.Abs
set_option maxRecDepth 10000
section
variable {l l' : List DesN} {hk n : Nat}
end
def maskL (x : List Nat) : Nat := x.foldl (fun a k => a ||| 2 ^ k) 0
end Go.Abs
