/-
  Chapter 7, cutting: the contract of the reference's Pieces.
-/
import Derived.Test.YtmfbeemalfpbjaaS42
set_option linter.all false
namespace Go.Abs
set_option maxRecDepth 10000
set_option maxHeartbeats 4000000

@[go_sem] theorem take_allP {α : Type} {k : Nat} {l : List α} (h : l.length ≤ k) : l.take k = l := List.take_of_length_le h

theorem grp_same {l : List Cut} {a c i : Nat} {h : Nat → Nat} (hi : i < c) : ((List.range c).map (grp l a h)).set i (.list 2 ((pickL l (fib a h i ++ [a])).map Cut.av)) = (List.range c).map (grp l (a + 1) (putH h a i)) := by
  apply List.ext_getElem?
  intro j
  rw [List.getElem?_set]
  simp only [List.length_map, List.length_range]
  by_cases e : i = j
  · subst e
    rw [if_pos rfl, if_pos hi]
    simp [hi, grp, fib_put]
  · rw [if_neg e]
    have e' : ¬ j = i := fun h => e h.symm
    by_cases hj : j < c
    · simp [hj, grp, fib_put, e']
    · simp [hj]
theorem grp_new {l : List Cut} {a c : Nat} {h : Nat → Nat} (hc : ∀ i, i < a → h i < c) : ((List.range c).map (grp l a h) ++ [AV.list 2 []]).set c (.list 2 ((pickL l (fib a h c ++ [a])).map Cut.av)) = (List.range (c + 1)).map (grp l (a + 1) (putH h a c)) := by
  have hl : ((List.range c).map (grp l a h)).length = c := by simp
  rw [List.range_succ, List.map_append, List.set_append_right _ _ (by omega), hl, Nat.sub_self]
  congr 1
  · apply List.map_congr_left
    intro j hj
    have := List.mem_range.1 hj
    simp [grp, fib_put, show ¬ j = c by omega]
  · simp [grp, fib_put]

end Go.Abs

