/-
  Designs beside and above each other, and point repeats, in plain Lean: no program in sight.
-/
import Derived.Test.YthafpdlfdkddpaaM7
set_option linter.all false
namespace Go.Abs
set_option maxRecDepth 10000

def besideN (a b : DesN) : DesN := ⟨a.hk + b.hk, (List.range a.rows.length).map fun i => a.rows.getD i 0 ||| b.rows.getD i 0 * 2 ^ a.hk⟩
def aboveN (a b : DesN) : DesN := ⟨a.hk, a.rows ++ b.rows⟩
def reflH (d : DesN) : Nat := d.hk + (d.hk - 2)
def reflectN (d : DesN) : DesN := madeN (fun p h => atN d p (min h (reflH d - h))) d.rows.length (reflH d)
theorem beside_bit {a b : DesN} (ha : a.Ok) {i j : Nat} (hi : i < a.rows.length) : (a.rows.getD i 0 ||| b.rows.getD i 0 * 2 ^ a.hk).testBit j = if j < a.hk then (a.rows.getD i 0).testBit j else (b.rows.getD i 0).testBit (j - a.hk) := by
  have hlt := ha.lt _ (List.getElem_mem hi)
  rw [← rows_get hi] at hlt
  rw [Nat.testBit_or, ← Nat.shiftLeft_eq, Nat.testBit_shiftLeft]
  by_cases hj : j < a.hk
  · rw [if_pos hj, decide_eq_false (by omega), Bool.false_and, Bool.or_false]
  · rw [if_neg hj, decide_eq_true (by omega), Bool.true_and]
    have hp : 2 ^ a.hk ≤ 2 ^ j := Nat.pow_le_pow_right (by omega) (by omega)
    rw [Nat.testBit_lt_two_pow (Nat.lt_of_lt_of_le hlt hp), Bool.false_or]
theorem beside_lt {a b : DesN} (ha : a.Ok) (hb : b.Ok) {i : Nat} (hi : i < a.rows.length) (hr : a.rows.length = b.rows.length) : a.rows.getD i 0 ||| b.rows.getD i 0 * 2 ^ a.hk < 2 ^ (a.hk + b.hk) := by
  have h1 := ha.lt _ (List.getElem_mem hi)
  have h2 := hb.lt _ (List.getElem_mem (show i < b.rows.length by omega))
  rw [← rows_get hi] at h1
  rw [← rows_get (show i < b.rows.length by omega)] at h2
  refine Nat.or_lt_two_pow (Nat.lt_of_lt_of_le h1 (Nat.pow_le_pow_right (by omega) (by omega))) ?_
  rw [Nat.pow_add, Nat.mul_comm]
  exact Nat.mul_lt_mul_of_pos_left h2 (Nat.pow_pos (by omega))
theorem besideN_ok {a b : DesN} (ha : a.Ok) (hb : b.Ok) (hr : a.rows.length = b.rows.length) (hh : a.hk + b.hk ≤ 24) : (besideN a b).Ok where
  h1 := by have := ha.h1; unfold besideN; dsimp only; omega
  h24 := hh
  r1 := by have := ha.r1; simp [besideN]; omega
  r60 := by have := ha.r60; simp [besideN]; omega
  lt := fun r h => by
    unfold besideN at h
    obtain ⟨i, hi, rfl⟩ := List.mem_map.1 h
    exact beside_lt ha hb (List.mem_range.1 hi) hr
theorem aboveN_ok {a b : DesN} (ha : a.Ok) (hb : b.Ok) (hh : a.hk = b.hk) (hr : a.rows.length + b.rows.length ≤ 60) : (aboveN a b).Ok where
  h1 := ha.h1
  h24 := ha.h24
  r1 := by have := ha.r1; simp [aboveN]; omega
  r60 := by simp [aboveN]; omega
  lt := fun r h => by
    unfold aboveN at h
    rcases List.mem_append.1 h with h | h
    · exact ha.lt r h
    · have := hb.lt r h
      rw [← hh] at this; exact this
theorem reflectN_ok {d : DesN} (hd : d.Ok) (hh : reflH d ≤ 24) : (reflectN d).Ok := madeN_ok (by have := hd.h1; unfold reflH; omega) hh hd.r1 hd.r60
end Go.Abs
