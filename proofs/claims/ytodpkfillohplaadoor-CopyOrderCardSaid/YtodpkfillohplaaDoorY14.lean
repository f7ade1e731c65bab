/-
 Chapter 12: the tree has no more changes than were made.
-/
import Derived.Test.YtodpkfillohplaaDoorY13
set_option linter.all false
namespace Go.Abs

theorem sets_at {t : Bool} {hk : Nat} {l : List DesN} {i : Nat} {d : DesN} (h : l[i]? = some d) : (setsN t hk l).getD i [] = turnL t hk d.rows := by
 unfold setsN
 rw [List.getD_eq_getElem?_getD, List.getElem?_map, h]; rfl
theorem tree_one (x : PressB) {N i : Nat} (hi : i < N) : (treeV (setsN (wayB x) (origN x).hk (madeTo x N).l) (joinN (setsN (wayB x) (origN x).hk (madeTo x N).l) (origN x).rows.length) (origN x).rows.length i i).2 ≤ (chgTo (wayB x) (parS x (madeTo x i).l i) (csrc x i) (chgN (csrc x i))).2 := by
 obtain ⟨_, s2, s3⟩ := treeV_spec (setsN (wayB x) (origN x).hk (madeTo x N).l) (joinN (setsN (wayB x) (origN x).hk (madeTo x N).l) (origN x).rows.length) (origN x).rows.length i i
 obtain ⟨m1, m2⟩ := made_lost x i
 rw [← m1]
 have eI := sets_at (t := wayB x) (hk := (origN x).hk) (madeTo_get x N i hi)
 by_cases h0 : (csrc x i).1.1 % (i + 1) = 0
 ·have ep : parS x (madeTo x i).l i = origN x := by unfold parS; rw [if_pos h0]
  refine Nat.le_trans s2 ?_
  rw [eI, ep]
  unfold lostV
  split
  ·exact lostT_mono fun q hq j hj => join_in x hq hj
  ·omega
 ·have hm := Nat.mod_lt (csrc x i).1.1 (show 0 < i + 1 by omega)
  have hk : (csrc x i).1.1 % (i + 1) - 1 < i := by omega
  have hlt : (csrc x i).1.1 % (i + 1) - 1 < (madeTo x i).l.length := by rw [(madeTo_len x i).1]; exact hk
  have ep : (madeTo x i).l[(csrc x i).1.1 % (i + 1) - 1]? = some (parS x (madeTo x i).l i) := by
   unfold parS
   rw [if_neg h0, List.getD_eq_getElem?_getD, List.getElem?_eq_getElem hlt]; rfl
  have eK := sets_at (t := wayB x) (hk := (origN x).hk) ((madeTo_pre x (N := N) (by omega) hk).symm.trans ep)
  have := s3 _ hk (by rw [eK, eI]; exact m2)
  rw [eK, eI] at this
  unfold lostV at this
  rw [if_pos m2] at this
  rcases this with h | ⟨h, _⟩ <;> omega
theorem tree_le (x : PressB) (N : Nat) : ∀ m, m ≤ N → treeS (setsN (wayB x) (origN x).hk (madeTo x N).l) (joinN (setsN (wayB x) (origN x).hk (madeTo x N).l) (origN x).rows.length) (origN x).rows.length m ≤ (madeTo x m).chg
 | 0, _ => by simp [treeS]
 | m + 1, h => by
  have h1 := tree_le x N m (by omega)
  have h2 := tree_one x (N := N) (i := m) (by omega)
  simp only [treeS, madeTo]
  omega
end Go.Abs
