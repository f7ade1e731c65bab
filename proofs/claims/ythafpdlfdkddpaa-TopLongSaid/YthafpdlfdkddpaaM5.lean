/-
  The least repeat of a design, in plain Lean: no program in sight.
-/
import Derived.Test.YthafpdlfdkddpaaM2
import Derived.Test.YthafpdlfdkddpaaM4
set_option linter.all false
namespace Go.Abs
set_option maxRecDepth 10000

/-- the rows after some are the same as the first ones -/
def sameP (d : DesN) (k : Nat) : Bool := decide (d.rows.drop k = d.rows.take (d.rows.length - k))
/-- a row without its lowest points is the same as without its highest -/
def sameRow (hk k r : Nat) : Bool := decide (r >>> k = r &&& (2 ^ (hk - k) - 1))
def sameH (d : DesN) (k : Nat) : Bool := d.rows.all (sameRow d.hk k)
def leastP (d : DesN) : Nat := perT d.rows.length (sameP d)
def leastH (d : DesN) : Nat := perT d.hk (sameH d)
/-- as the document tells it: a table of rings, repeated -/
def wholeR (R : Nat → List Bool) (n k : Nat) : Bool := (List.range n).all fun i => decide (R i = R (i % k))
theorem wholeR_iff {R : Nat → List Bool} {n k : Nat} : wholeR R n k = true ↔ ∀ i, i < n → R i = R (i % k) := by
  unfold wholeR
  simp
theorem whole_self (R : Nat → List Bool) (n : Nat) : wholeR R n n = true := wholeR_iff.2 fun i hi => by rw [Nat.mod_eq_of_lt hi]
theorem rows_get {d : DesN} {i : Nat} (h : i < d.rows.length) : d.rows.getD i 0 = d.rows[i] := by
  rw [List.getD_eq_getElem?_getD, List.getElem?_eq_getElem h]; rfl
theorem pickR_get {d : DesN} {i h : Nat} (hh : h < d.hk) : (pickR d i)[h]'(by rw [pickR_len]; exact hh) = (d.rows.getD i 0).testBit h := by
  simp [pickR]
theorem hookR_get {d : DesN} {i h : Nat} (hi : i < d.rows.length) : (hookR d h)[i]'(by rw [hookR_len]; exact hi) = (d.rows.getD i 0).testBit h := by
  simp [hookR, List.getElem?_eq_getElem hi]
theorem pickR_inj {d : DesN} (hd : d.Ok) {i j : Nat} (hi : i < d.rows.length) (hj : j < d.rows.length) : pickR d i = pickR d j ↔ d.rows[i] = d.rows[j] := by
  constructor
  · intro h
    have h1 := hd.lt _ (List.getElem_mem hi)
    have h2 := hd.lt _ (List.getElem_mem hj)
    refine row_eq h1 h2 fun k hk => ?_
    have e1 := pickR_get (d := d) (i := i) hk
    have e2 := pickR_get (d := d) (i := j) hk
    rw [rows_get hi] at e1
    rw [rows_get hj] at e2
    rw [← e1, ← e2]
    congr 1
  · intro h
    unfold pickR
    rw [rows_get hi, rows_get hj, h]
theorem sameP_iff {d : DesN} (hd : d.Ok) {k : Nat} (h1 : 1 ≤ k) (hk : k < d.rows.length) : sameP d k = wholeR (pickR d) d.rows.length k := by
  have key : sameP d k = true ↔ wholeR (pickR d) d.rows.length k = true := by
    rw [wholeR_iff, ← period_iff h1 hk]
    unfold sameP
    rw [decide_eq_true_eq]
    constructor
    · intro h i hi
      have e : (d.rows.drop k)[i]? = (d.rows.take (d.rows.length - k))[i]? := by rw [h]
      rw [List.getElem?_drop, List.getElem?_take, if_pos hi, List.getElem?_eq_getElem (by omega), List.getElem?_eq_getElem (by omega), Option.some.injEq] at e
      rw [pickR_inj hd (by omega) (by omega), ← e]
      congr 1; omega
    · intro h
      apply List.ext_getElem
      · simp
      · intro i hi1 hi2
        rw [List.getElem_drop, List.getElem_take]
        simp at hi1
        have := (pickR_inj hd (i := i + k) (j := i) (by omega) (by omega)).1 (h i (by omega))
        rw [← this]
        congr 1; omega
  cases h : sameP d k <;> cases h' : wholeR (pickR d) d.rows.length k <;> simp_all
theorem leastP_eq {d : DesN} (hd : d.Ok) : leastP d = perT d.rows.length (wholeR (pickR d) d.rows.length) :=
  perT_congr fun k h1 h2 _ => sameP_iff hd h1 h2
theorem sameRow_iff {hk k r : Nat} (hr : r < 2 ^ hk) (hlt : k < hk) : sameRow hk k r = true ↔ ∀ j, j < hk - k → r.testBit (j + k) = r.testBit j := by
  unfold sameRow
  rw [decide_eq_true_eq]
  constructor
  · intro h j hj
    have := congrArg (fun x => Nat.testBit x j) h
    simp only [Nat.testBit_shiftRight, Nat.testBit_and, Nat.testBit_two_pow_sub_one, decide_eq_true hj, Bool.and_true] at this
    rw [Nat.add_comm]; exact this
  · intro h
    apply Nat.eq_of_testBit_eq
    intro j
    rw [Nat.testBit_shiftRight, Nat.testBit_and, Nat.testBit_two_pow_sub_one]
    by_cases hj : j < hk - k
    · rw [decide_eq_true hj, Bool.and_true, Nat.add_comm]; exact h j hj
    · rw [decide_eq_false hj, Bool.and_false]
      have hp : 2 ^ hk ≤ 2 ^ (k + j) := Nat.pow_le_pow_right (by omega) (by omega)
      exact Nat.testBit_lt_two_pow (Nat.lt_of_lt_of_le hr hp)
theorem sameH_iff {d : DesN} (hd : d.Ok) {k : Nat} (h1 : 1 ≤ k) (hk : k < d.hk) : sameH d k = wholeR (hookR d) d.hk k := by
  have key : sameH d k = true ↔ wholeR (hookR d) d.hk k = true := by
    rw [wholeR_iff, ← period_iff h1 hk]
    unfold sameH
    rw [List.all_eq_true]
    constructor
    · intro h j hj
      unfold hookR
      exact List.map_congr_left fun r hr => (sameRow_iff (hd.lt r hr) hk).1 (h r hr) j hj
    · intro h r hr
      refine (sameRow_iff (hd.lt r hr) hk).2 fun j hj => ?_
      have := h j hj
      unfold hookR at this
      exact List.map_inj_left.1 this r hr
  cases h : sameH d k <;> cases h' : wholeR (hookR d) d.hk k <;> simp_all
theorem leastH_eq {d : DesN} (hd : d.Ok) : leastH d = perT d.hk (wholeR (hookR d) d.hk) :=
  perT_congr fun k h1 h2 _ => sameH_iff hd h1 h2
end Go.Abs
