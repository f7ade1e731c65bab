/-
 Several texts: Y11, Y12, Y13.
-/
import Derived.Test.YtodpkfillohplaaDoorW4
import Derived.Test.YtodpkfillohplaaDoorX11
set_option linter.all false
namespace Go.Abs
theorem chg_within (t : Bool) {d : DesN} (hd : d.Ok) (c : ByteB × ByteB × ByteB) : ∀ k q j, q < d.rows.length → j < d.hk → (((chgTo t d c k).1.getD q 0).testBit j ^^ t) = true → ((d.rows.getD q 0).testBit j ^^ t) = true
 | 0, _, _, _, _, h => h
 | k + 1, q, j, hq, hj, h => by
  unfold chgTo at h;split at h
  ·rename_i hb
   rw [List.getD_eq_getElem?_getD, List.getElem?_set] at h;split at h
   ·rename_i e
    split at h
    ·simp only [Option.getD_some] at h
     rw [Nat.testBit_xor, Nat.testBit_two_pow] at h;by_cases ej : chgH d c k = j
     ·subst ej
      subst e;unfold chgB at hb;exact chg_within t hd c k _ _ hq hj hb
     ·subst e
      refine chg_within t hd c k _ _ hq hj ?_;simpa [ej] using h
    ·rename_i hlt
     rw [chgTo_len] at hlt;exact absurd (e ▸ hq) hlt
   ·exact chg_within t hd c k q j hq hj (by rw [List.getD_eq_getElem?_getD]; exact h)
  ·exact chg_within t hd c k q j hq hj h
end Go.Abs
set_option linter.all false
namespace Go.Abs
def InO (x : PressB) (d : DesN) : Prop := ∀ q j, q < (origN x).rows.length → j < (origN x).hk → ((d.rows.getD q 0).testBit j ^^ wayB x) = true → (((origN x).rows.getD q 0).testBit j ^^ wayB x) = true
theorem parS_in {x : PressB} {l : List DesN} {i : Nat} (h : ∀ d ∈ l, InO x d) : InO x (parS x l i) := by
 unfold parS;split
 ·exact fun _ _ _ _ h => h
 ·rw [List.getD_eq_getElem?_getD]
  cases e : l[(csrc x i).1.1 % (i + 1) - 1]? with
  | none => exact fun _ _ _ _ h => h
  | some d => exact h d (List.mem_of_getElem? e)
theorem madeTo_in (x : PressB) : ∀ i, ∀ d ∈ (madeTo x i).l, InO x d
 | 0, d, h => by cases h
 | i + 1, d, h => by
  have ih := madeTo_in x i;have hl := parS_like (x := x) (i := i) (madeTo_like x i);rcases List.mem_append.1 h with h | h
  ·exact ih d h
  ·rw [List.mem_singleton.1 h]
   intro q j hq hj hb;exact parS_in ih q j hq hj (chg_within (wayB x) hl.ok (csrc x i) (chgN (csrc x i)) q j (by rw [hl.rows]; exact hq) (by rw [hl.hk]; exact hj) hb)
end Go.Abs
set_option linter.all false
namespace Go.Abs
theorem madeTo_sets (x : PressB) {N : Nat} (h1 : 1 ≤ N) (h10 : N ≤ 10) : SetsOk (madeTo x N).l (origN x).hk (origN x).rows.length where
 l1 := by rw [(madeTo_len x N).1]; exact h1
 l10 := by rw [(madeTo_len x N).1]; exact h10
 ok := fun d hd => (madeTo_like x N d hd).ok
 hk := fun d hd => (madeTo_like x N d hd).hk
 rows := fun d hd => (madeTo_like x N d hd).rows
theorem join_in (x : PressB) {N q j : Nat} (hq : q < (origN x).rows.length) (h : (atR (joinN (setsN (wayB x) (origN x).hk (madeTo x N).l) (origN x).rows.length) q).testBit j = true) : (atR (turnL (wayB x) (origN x).hk (origN x).rows) q).testBit j = true := by
 have e : atR (joinN (setsN (wayB x) (origN x).hk (madeTo x N).l) (origN x).rows.length) q = joinAt (setsN (wayB x) (origN x).hk (madeTo x N).l) q := by
  unfold atR joinN;rw [rows_get (by simpa using hq)]; simp
 rw [e] at h;unfold joinAt setsN at h;rw [orAll_bit, List.any_map, List.any_map] at h;obtain ⟨d, hd, hb⟩ := List.any_eq_true.1 h;have hl := madeTo_like x N d hd;simp only [Function.comp] at hb;have hq2 : q < d.rows.length := by rw [hl.rows]; exact hq
 have e1 : atR (turnL (wayB x) (origN x).hk d.rows) q = turnR (wayB x) (origN x).hk (d.rows.getD q 0) := turnL_at _ _ _ hq2;have e2 : atR (turnL (wayB x) (origN x).hk (origN x).rows) q = turnR (wayB x) (origN x).hk ((origN x).rows.getD q 0) := turnL_at _ _ _ hq;rw [e1] at hb;rw [e2];have hlt : d.rows.getD q 0 < 2 ^ (origN x).hk := by rw [← hl.hk]; exact hl.ok.at hq2
 by_cases hj : j < (origN x).hk
 ·rw [turnR_bit hj] at hb ⊢
  exact madeTo_in x N d hd q j hq hj hb
 ·rw [Nat.testBit_lt_two_pow (Nat.lt_of_lt_of_le (turnR_lt hlt) (Nat.pow_le_pow_right (by omega) (by omega)))] at hb
  cases hb
end Go.Abs
