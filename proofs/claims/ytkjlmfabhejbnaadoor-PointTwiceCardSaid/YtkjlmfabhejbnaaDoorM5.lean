/-
 Several texts: M2, M5.
-/
import Derived.Test.YtkjlmfabhejbnaaDoorM1
import Derived.Test.YtkjlmfabhejbnaaDoorKL
set_option linter.all false
namespace Go.Abs
set_option maxRecDepth 10000

/-- how the document tells the length of a float -/
def lengthT (l : List Bool) (a : Nat) : Nat := if begs l a then lenT l a else if anyTo l l.length then 0 else if a = 0 then 1000 else 0
def refTo (l : List Bool) (b : Int) (k : Nat) : List RunT := ((List.range k).filter fun k => decide (lengthT l k ≠ 0) && decide (b < lengthT l k)).map fun k => ⟨k, lengthT l k, gb l k⟩
theorem refTo_succ (l : List Bool) (b : Int) (k : Nat) : refTo l b (k + 1) = refTo l b k ++ if lengthT l k ≠ 0 ∧ b < lengthT l k then [⟨k, lengthT l k, gb l k⟩] else [] := by
 unfold refTo
 rw [List.range_succ, List.filter_append, List.map_append]
 congr 1
 by_cases h1 : lengthT l k ≠ 0 <;> by_cases h2 : b < lengthT l k <;> simp [h1, h2]
theorem refTo_eq {l : List Bool} (h : 0 < l.length) (b : Int) : refTo l b l.length = (runsT l).filter fun x => decide (b < x.len) := by
 unfold refTo runsT lastT
 cases ha : anyTo l l.length with
 | true =>
  rw [if_pos rfl, List.append_nil]
  unfold runsTo
  rw [List.filter_map, List.filter_filter]
  have e : ∀ k, lengthT l k = if begs l k then lenT l k else 0 := fun k => by
   unfold lengthT; rw [ha, if_pos rfl]
  have hp : ∀ k, begs l k = true → 1 ≤ lenT l k := fun k hk => (lenT_is hk).pos
  have e2 : ((List.range l.length).filter fun k => decide (lengthT l k ≠ 0) && decide (b < lengthT l k)) = (List.range l.length).filter fun k => ((fun x : RunT => decide (b < x.len)) ∘ runAt l) k && begs l k := by
   apply List.filter_congr
   intro k _
   rw [e]
   cases hb : begs l k with
   | true =>
    have := hp k hb
    rw [if_pos rfl]
    simp only [Function.comp, runAt, Bool.and_true, ne_eq]
    rw [decide_eq_true (show ¬ lenT l k = 0 by omega), Bool.true_and]
    rfl
   | false => simp
  rw [e2]
  apply List.map_congr_left
  intro k hk
  have hb : begs l k = true := by
   have := (List.mem_filter.1 hk).2
   simp at this; exact this.2
  rw [e, hb, if_pos rfl]; rfl
 | false =>
  have h0 := (anyTo_runs l l.length).1 ha
  rw [h0, if_neg (by simp), List.nil_append]
  have hb : ∀ k, k < l.length → begs l k = false := fun k hk => by
   unfold anyTo at ha
   rw [List.any_eq_false] at ha
   simpa using ha k (List.mem_range.2 hk)
  have e : ∀ k, k < l.length → lengthT l k = if k = 0 then 1000 else 0 := fun k hk => by
   unfold lengthT; rw [ha, hb k hk]; simp
  have e2 : ((List.range l.length).filter fun k => decide (lengthT l k ≠ 0) && decide (b < lengthT l k)) = (List.range l.length).filter fun k => decide (k = 0) && decide (b < 1000) := by
   apply List.filter_congr
   intro k hk
   rw [e k (List.mem_range.1 hk)]
   by_cases hk0 : k = 0 <;> simp [hk0]
  rw [e2, show l.length = (l.length - 1) + 1 by omega, List.range_succ_eq_map, List.filter_cons]
  have e3 : (((List.range (l.length - 1)).map Nat.succ).filter fun k => decide (k = 0) && decide (b < 1000)) = [] := by
   rw [List.filter_eq_nil_iff]
   intro k hk
   obtain ⟨j, _, rfl⟩ := List.mem_map.1 hk
   simp
  rw [e3]
  by_cases hb1 : b < 1000
  ·simp [hb1, e 0 h]
  ·simp [hb1]

def floatW (i : Nat) (x : RunT) : FloatT := ⟨i, x.first, x.len, x.up⟩
def floatH (i : Nat) (x : RunT) : FloatT := ⟨x.first, i, x.len, x.up⟩
/-- points of a design, pick by pick, and hook by hook -/
def pickR (d : DesN) (i : Nat) : List Bool := (List.range d.hk).map fun h => (d.rows.getD i 0).testBit h
def hookR (d : DesN) (h : Nat) : List Bool := d.rows.map fun r => r.testBit h
theorem pickR_len (d : DesN) (i : Nat) : (pickR d i).length = d.hk := by simp [pickR]
theorem hookR_len (d : DesN) (i : Nat) : (hookR d i).length = d.rows.length := by simp [hookR]
/-- the floats of the first so many rings -/
def flTo (R : Nat → List Bool) (mk : Nat → RunT → FloatT) (i : Nat) : List FloatT := (List.range i).flatMap fun i => (runsT (R i)).map (mk i)
theorem flTo_succ (R : Nat → List Bool) (mk : Nat → RunT → FloatT) (i : Nat) : flTo R mk (i + 1) = flTo R mk i ++ (runsT (R i)).map (mk i) := by
 unfold flTo; rw [List.range_succ, List.flatMap_append]; simp
def flFrom (R : Nat → List Bool) (mk : Nat → RunT → FloatT) (i n : Nat) : List FloatT := (List.range' i (n - i)).flatMap fun i => (runsT (R i)).map (mk i)
theorem flFrom_step {R : Nat → List Bool} {mk : Nat → RunT → FloatT} {i n : Nat} (h : i < n) : flFrom R mk i n = (runsT (R i)).map (mk i) ++ flFrom R mk (i + 1) n := by
 unfold flFrom
 rw [show n - i = (n - (i + 1)) + 1 by omega, List.range'_succ, List.flatMap_cons]
theorem flFrom_zero (R : Nat → List Bool) (mk : Nat → RunT → FloatT) (n : Nat) : flFrom R mk 0 n = flTo R mk n := by
 unfold flFrom flTo; rw [List.range_eq_range', Nat.sub_zero]
theorem flFrom_end (R : Nat → List Bool) (mk : Nat → RunT → FloatT) (n : Nat) : flFrom R mk n n = [] := by
 unfold flFrom; rw [Nat.sub_self]; rfl
def weftF (d : DesN) : List FloatT := flTo (pickR d) floatW d.rows.length
def warpF (d : DesN) : List FloatT := flTo (hookR d) floatH d.hk
end Go.Abs

set_option linter.all false
namespace Go.Abs
set_option maxRecDepth 10000

/-- the rows after some are the same as the first ones -/
def sameP (d : DesN) (k : Nat) : Bool := decide (d.rows.drop k = d.rows.take (d.rows.length - k))
/-- a row without its lowest points is the same as without its highest -/
def sameRow (hk k r : Nat) : Bool := decide (r >>> k = r &&& (2 ^ (hk - k) - 1))
def sameH (d : DesN) (k : Nat) : Bool := d.rows.all (sameRow d.hk k)
def leastP (d : DesN) : Nat := perT d.rows.length (sameP d)
def leastH (d : DesN) : Nat := perT d.hk (sameH d)
/-- as the document tells it: a table of rings, repeated -/
def wholeR (R : Nat → List Bool) (n k : Nat) : Bool := (List.range n).all fun i => decide (R i = R (i % k))
theorem wholeR_iff {R : Nat → List Bool} {n k : Nat} : wholeR R n k = true ↔ ∀ i, i < n → R i = R (i % k) := by
 unfold wholeR
 simp
theorem whole_self (R : Nat → List Bool) (n : Nat) : wholeR R n n = true := wholeR_iff.2 fun i hi => by rw [Nat.mod_eq_of_lt hi]
theorem rows_get {d : DesN} {i : Nat} (h : i < d.rows.length) : d.rows.getD i 0 = d.rows[i] := by
 rw [List.getD_eq_getElem?_getD, List.getElem?_eq_getElem h]; rfl
theorem pickR_get {d : DesN} {i h : Nat} (hh : h < d.hk) : (pickR d i)[h]'(by rw [pickR_len]; exact hh) = (d.rows.getD i 0).testBit h := by
 simp [pickR]
theorem hookR_get {d : DesN} {i h : Nat} (hi : i < d.rows.length) : (hookR d h)[i]'(by rw [hookR_len]; exact hi) = (d.rows.getD i 0).testBit h := by
 simp [hookR, List.getElem?_eq_getElem hi]
theorem pickR_inj {d : DesN} (hd : d.Ok) {i j : Nat} (hi : i < d.rows.length) (hj : j < d.rows.length) : pickR d i = pickR d j ↔ d.rows[i] = d.rows[j] := by
 constructor
 ·intro h
  have h1 := hd.lt _ (List.getElem_mem hi)
  have h2 := hd.lt _ (List.getElem_mem hj)
  refine row_eq h1 h2 fun k hk => ?_
  have e1 := pickR_get (d := d) (i := i) hk
  have e2 := pickR_get (d := d) (i := j) hk
  rw [rows_get hi] at e1
  rw [rows_get hj] at e2
  rw [← e1, ← e2]
  congr 1
 ·intro h
  unfold pickR
  rw [rows_get hi, rows_get hj, h]
theorem sameP_iff {d : DesN} (hd : d.Ok) {k : Nat} (h1 : 1 ≤ k) (hk : k < d.rows.length) : sameP d k = wholeR (pickR d) d.rows.length k := by
 have key : sameP d k = true ↔ wholeR (pickR d) d.rows.length k = true := by
  rw [wholeR_iff, ← period_iff h1 hk]
  unfold sameP
  rw [decide_eq_true_eq]
  constructor
  ·intro h i hi
   have e : (d.rows.drop k)[i]? = (d.rows.take (d.rows.length - k))[i]? := by rw [h]
   rw [List.getElem?_drop, List.getElem?_take, if_pos hi, List.getElem?_eq_getElem (by omega), List.getElem?_eq_getElem (by omega), Option.some.injEq] at e
   rw [pickR_inj hd (by omega) (by omega), ← e]
   congr 1; omega
  ·intro h
   apply List.ext_getElem
   ·simp
   ·intro i hi1 hi2
    rw [List.getElem_drop, List.getElem_take]
    simp at hi1
    have := (pickR_inj hd (i := i + k) (j := i) (by omega) (by omega)).1 (h i (by omega))
    rw [← this]
    congr 1; omega
 cases h : sameP d k <;> cases h' : wholeR (pickR d) d.rows.length k <;> simp_all
theorem leastP_eq {d : DesN} (hd : d.Ok) : leastP d = perT d.rows.length (wholeR (pickR d) d.rows.length) :=
 perT_congr fun k h1 h2 _ => sameP_iff hd h1 h2
theorem sameRow_iff {hk k r : Nat} (hr : r < 2 ^ hk) (hlt : k < hk) : sameRow hk k r = true ↔ ∀ j, j < hk - k → r.testBit (j + k) = r.testBit j := by
 unfold sameRow
 rw [decide_eq_true_eq]
 constructor
 ·intro h j hj
  have := congrArg (fun x => Nat.testBit x j) h
  simp only [Nat.testBit_shiftRight, Nat.testBit_and, Nat.testBit_two_pow_sub_one, decide_eq_true hj, Bool.and_true] at this
  rw [Nat.add_comm]; exact this
 ·intro h
  apply Nat.eq_of_testBit_eq
  intro j
  rw [Nat.testBit_shiftRight, Nat.testBit_and, Nat.testBit_two_pow_sub_one]
  by_cases hj : j < hk - k
  ·rw [decide_eq_true hj, Bool.and_true, Nat.add_comm]; exact h j hj
  ·rw [decide_eq_false hj, Bool.and_false]
   have hp : 2 ^ hk ≤ 2 ^ (k + j) := Nat.pow_le_pow_right (by omega) (by omega)
   exact Nat.testBit_lt_two_pow (Nat.lt_of_lt_of_le hr hp)
theorem sameH_iff {d : DesN} (hd : d.Ok) {k : Nat} (h1 : 1 ≤ k) (hk : k < d.hk) : sameH d k = wholeR (hookR d) d.hk k := by
 have key : sameH d k = true ↔ wholeR (hookR d) d.hk k = true := by
  rw [wholeR_iff, ← period_iff h1 hk]
  unfold sameH
  rw [List.all_eq_true]
  constructor
  ·intro h j hj
   unfold hookR
   exact List.map_congr_left fun r hr => (sameRow_iff (hd.lt r hr) hk).1 (h r hr) j hj
  ·intro h r hr
   refine (sameRow_iff (hd.lt r hr) hk).2 fun j hj => ?_
   have := h j hj
   unfold hookR at this
   exact List.map_inj_left.1 this r hr
 cases h : sameH d k <;> cases h' : wholeR (hookR d) d.hk k <;> simp_all
theorem leastH_eq {d : DesN} (hd : d.Ok) : leastH d = perT d.hk (wholeR (hookR d) d.hk) :=
 perT_congr fun k h1 h2 _ => sameH_iff hd h1 h2
end Go.Abs
