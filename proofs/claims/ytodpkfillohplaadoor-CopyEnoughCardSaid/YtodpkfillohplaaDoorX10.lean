/-
 Chapter 12: which copy was made of which. No condition beyond those that each theorem names.
-/
import Derived.Test.YtodpkfillohplaaDoorX9
set_option linter.all false
namespace Go.Abs
set_option maxRecDepth 10000
set_option maxHeartbeats 4000000
def lostV (a b : List Nat) (n : Nat) : Nat := if subB a b n then lostN a b n else 0
theorem lostV_le (a b : List Nat) (n : Nat) : lostV a b n ≤ 24 * n := by
 unfold lostV;split
 ·exact lostT_le _ _ n
 ·omega
def treeV (s : List (List Nat)) (j : List Nat) (n i : Nat) : Nat → Int × Nat
 | 0 => (-1, lostV j (s.getD i []) n)
 | k + 1 => if subB (s.getD k []) (s.getD i []) n = true ∧ lostV (s.getD k []) (s.getD i []) n < (treeV s j n i k).2 then ((k : Int), lostV (s.getD k []) (s.getD i []) n) else treeV s j n i k
def treeL (s : List (List Nat)) (j : List Nat) (n m : Nat) : List Int := (List.range m).map fun i => (treeV s j n i i).1
def treeS (s : List (List Nat)) (j : List Nat) (n : Nat) : Nat → Nat
 | 0 => 0
 | i + 1 => treeS s j n i + (treeV s j n i i).2
def intsV (l : List Int) : List AV := l.map fun n => iv n
@[simp] theorem intsV_len (l : List Int) : (intsV l).length = l.length := by simp [intsV]
@[simp] theorem treeL_len (s : List (List Nat)) (j : List Nat) (n m : Nat) : (treeL s j n m).length = m := by simp [treeL]
theorem sets_get {s : List (List Nat)} {k : Nat} (h : k < s.length) : (s.map listV)[k]? = some (.list 1 (natsV (s.getD k []))) := by
 rw [List.getElem?_map, List.getD_eq_getElem?_getD, List.getElem?_eq_getElem h]; rfl
end Go.Abs
