/-
  Chapter 7, cutting: the contract of the reference's Need: the least of all orders.
-/
import Derived.Test.YtmfbeemalfpbjaaS24
set_option linter.all false
namespace Go.Abs
set_option maxRecDepth 10000
set_option maxHeartbeats 1000000

@[go_sem] theorem bool_plain (l : List Bool) : (l.map AV.bool).all AV.plain = true := by
  simp [AV.plain, AV.plain1]

def isFree (used : List Bool) (i : Nat) : Bool := !(used[i]?.getD true)
theorem free_set {used : List Bool} {i j : Nat} (hj : j < used.length) (hi : i < used.length) : isFree (used.set i true) j = less (isFree used) i j := by
  unfold isFree less
  by_cases e : j = i
  · subst e; simp [hj]
  · have : ¬ i = j := fun h => e h.symm
    simp [List.getElem?_set, this, e]

end Go.Abs

