/-
  The floats of a design, in plain Lean: no program in sight.
-/
import Derived.Test.YthafpdlfdkddpaaM1
import Derived.Test.YthafpdlfdkddpaaKL
set_option linter.all false
namespace Go.Abs
set_option maxRecDepth 10000

/-- how the document tells the length of a float -/
def lengthT (l : List Bool) (a : Nat) : Nat := if begs l a then lenT l a else if anyTo l l.length then 0 else if a = 0 then 1000 else 0
def refTo (l : List Bool) (b : Int) (k : Nat) : List RunT := ((List.range k).filter fun k => decide (lengthT l k ≠ 0) && decide (b < lengthT l k)).map fun k => ⟨k, lengthT l k, gb l k⟩
theorem refTo_succ (l : List Bool) (b : Int) (k : Nat) : refTo l b (k + 1) = refTo l b k ++ if lengthT l k ≠ 0 ∧ b < lengthT l k then [⟨k, lengthT l k, gb l k⟩] else [] := by
  unfold refTo
  rw [List.range_succ, List.filter_append, List.map_append]
  congr 1
  by_cases h1 : lengthT l k ≠ 0 <;> by_cases h2 : b < lengthT l k <;> simp [h1, h2]
theorem refTo_eq {l : List Bool} (h : 0 < l.length) (b : Int) : refTo l b l.length = (runsT l).filter fun x => decide (b < x.len) := by
  unfold refTo runsT lastT
  cases ha : anyTo l l.length with
  | true =>
    rw [if_pos rfl, List.append_nil]
    unfold runsTo
    rw [List.filter_map, List.filter_filter]
    have e : ∀ k, lengthT l k = if begs l k then lenT l k else 0 := fun k => by
      unfold lengthT; rw [ha, if_pos rfl]
    have hp : ∀ k, begs l k = true → 1 ≤ lenT l k := fun k hk => (lenT_is hk).pos
    have e2 : ((List.range l.length).filter fun k => decide (lengthT l k ≠ 0) && decide (b < lengthT l k)) = (List.range l.length).filter fun k => ((fun x : RunT => decide (b < x.len)) ∘ runAt l) k && begs l k := by
      apply List.filter_congr
      intro k _
      rw [e]
      cases hb : begs l k with
      | true =>
        have := hp k hb
        rw [if_pos rfl]
        simp only [Function.comp, runAt, Bool.and_true, ne_eq]
        rw [decide_eq_true (show ¬ lenT l k = 0 by omega), Bool.true_and]
        rfl
      | false => simp
    rw [e2]
    apply List.map_congr_left
    intro k hk
    have hb : begs l k = true := by
      have := (List.mem_filter.1 hk).2
      simp at this; exact this.2
    rw [e, hb, if_pos rfl]; rfl
  | false =>
    have h0 := (anyTo_runs l l.length).1 ha
    rw [h0, if_neg (by simp), List.nil_append]
    have hb : ∀ k, k < l.length → begs l k = false := fun k hk => by
      unfold anyTo at ha
      rw [List.any_eq_false] at ha
      simpa using ha k (List.mem_range.2 hk)
    have e : ∀ k, k < l.length → lengthT l k = if k = 0 then 1000 else 0 := fun k hk => by
      unfold lengthT; rw [ha, hb k hk]; simp
    have e2 : ((List.range l.length).filter fun k => decide (lengthT l k ≠ 0) && decide (b < lengthT l k)) = (List.range l.length).filter fun k => decide (k = 0) && decide (b < 1000) := by
      apply List.filter_congr
      intro k hk
      rw [e k (List.mem_range.1 hk)]
      by_cases hk0 : k = 0 <;> simp [hk0]
    rw [e2, show l.length = (l.length - 1) + 1 by omega, List.range_succ_eq_map, List.filter_cons]
    have e3 : (((List.range (l.length - 1)).map Nat.succ).filter fun k => decide (k = 0) && decide (b < 1000)) = [] := by
      rw [List.filter_eq_nil_iff]
      intro k hk
      obtain ⟨j, _, rfl⟩ := List.mem_map.1 hk
      simp
    rw [e3]
    by_cases hb1 : b < 1000
    · simp [hb1, e 0 h]
    · simp [hb1]

def floatW (i : Nat) (x : RunT) : FloatT := ⟨i, x.first, x.len, x.up⟩
def floatH (i : Nat) (x : RunT) : FloatT := ⟨x.first, i, x.len, x.up⟩
/-- points of a design, pick by pick, and hook by hook -/
def pickR (d : DesN) (i : Nat) : List Bool := (List.range d.hk).map fun h => (d.rows.getD i 0).testBit h
def hookR (d : DesN) (h : Nat) : List Bool := d.rows.map fun r => r.testBit h
theorem pickR_len (d : DesN) (i : Nat) : (pickR d i).length = d.hk := by simp [pickR]
theorem hookR_len (d : DesN) (i : Nat) : (hookR d i).length = d.rows.length := by simp [hookR]
/-- the floats of the first so many rings -/
def flTo (R : Nat → List Bool) (mk : Nat → RunT → FloatT) (i : Nat) : List FloatT := (List.range i).flatMap fun i => (runsT (R i)).map (mk i)
theorem flTo_succ (R : Nat → List Bool) (mk : Nat → RunT → FloatT) (i : Nat) : flTo R mk (i + 1) = flTo R mk i ++ (runsT (R i)).map (mk i) := by
  unfold flTo; rw [List.range_succ, List.flatMap_append]; simp
def flFrom (R : Nat → List Bool) (mk : Nat → RunT → FloatT) (i n : Nat) : List FloatT := (List.range' i (n - i)).flatMap fun i => (runsT (R i)).map (mk i)
theorem flFrom_step {R : Nat → List Bool} {mk : Nat → RunT → FloatT} {i n : Nat} (h : i < n) : flFrom R mk i n = (runsT (R i)).map (mk i) ++ flFrom R mk (i + 1) n := by
  unfold flFrom
  rw [show n - i = (n - (i + 1)) + 1 by omega, List.range'_succ, List.flatMap_cons]
theorem flFrom_zero (R : Nat → List Bool) (mk : Nat → RunT → FloatT) (n : Nat) : flFrom R mk 0 n = flTo R mk n := by
  unfold flFrom flTo; rw [List.range_eq_range', Nat.sub_zero]
theorem flFrom_end (R : Nat → List Bool) (mk : Nat → RunT → FloatT) (n : Nat) : flFrom R mk n n = [] := by
  unfold flFrom; rw [Nat.sub_self]; rfl
def weftF (d : DesN) : List FloatT := flTo (pickR d) floatW d.rows.length
def warpF (d : DesN) : List FloatT := flTo (hookR d) floatH d.hk
end Go.Abs
