/-
  Points that go round, and their floats, in plain Lean: no program in sight.
-/
import Derived.Test.YthafpdlfdkddpaaP1
set_option linter.all false
namespace Go.Abs
set_option maxRecDepth 10000

/-- a point of points that go round -/
def gb (l : List Bool) (i : Nat) : Bool := l.getD (i % l.length) false
def begs (l : List Bool) (i : Nat) : Bool := gb l i != gb l (i + l.length - 1)
/-- the length of the float that begins at a point -/
def lenT (l : List Bool) (i : Nat) : Nat := 1 + (List.range l.length).findIdx fun k => gb l (i + 1 + k) != gb l i
theorem gb_lt {l : List Bool} {i : Nat} (h : i < l.length) : gb l i = l[i] := by
  unfold gb
  rw [Nat.mod_eq_of_lt h, List.getD_eq_getElem?_getD, List.getElem?_eq_getElem h]; rfl
theorem gb_mod (l : List Bool) (i : Nat) : gb l (i % l.length) = gb l i := by
  unfold gb; rw [Nat.mod_mod]
theorem gb_add (l : List Bool) (i : Nat) : gb l (i + l.length) = gb l i := by
  unfold gb; rw [Nat.add_mod_right]
theorem gb_get {l : List Bool} {i : Nat} (h : 0 < l.length) : l[i % l.length]? = some (gb l i) := by
  have := Nat.mod_lt i h
  unfold gb
  rw [List.getD_eq_getElem?_getD, List.getElem?_eq_getElem this]; rfl
structure LenIs (l : List Bool) (i n : Nat) : Prop where
  pos : 1 ≤ n
  lt : n < l.length
  same : ∀ k, k < n → gb l (i + k) = gb l i
  other : gb l (i + n) ≠ gb l i
theorem lenT_is {l : List Bool} {i : Nat} (h : begs l i = true) : LenIs l i (lenT l i) := by
  have hb : gb l i ≠ gb l (i + l.length - 1) := by simpa [begs] using h
  have h2 : 2 ≤ l.length := by
    rcases Nat.lt_or_ge 1 l.length with h | h
    · exact h
    · exfalso; apply hb
      unfold gb
      have : l.length = 0 ∨ l.length = 1 := by omega
      rcases this with h' | h'
      · rw [List.length_eq_zero_iff.1 h']; simp
      · rw [h', Nat.mod_one, Nat.mod_one]
  have hex : ∃ k ∈ List.range l.length, (gb l (i + 1 + k) != gb l i) = true := ⟨l.length - 2, List.mem_range.2 (by omega), by
    rw [show i + 1 + (l.length - 2) = i + l.length - 1 by omega]
    simpa using fun e => hb e.symm⟩
  have hlt := List.findIdx_lt_length_of_exists hex
  have hle : (List.range l.length).findIdx (fun k => gb l (i + 1 + k) != gb l i) ≤ l.length - 2 := by
    rw [List.length_range] at hlt
    rcases Nat.lt_or_ge (l.length - 2) ((List.range l.length).findIdx (fun k => gb l (i + 1 + k) != gb l i)) with h3 | h3
    · exfalso
      have := List.not_of_lt_findIdx h3
      simp only [List.getElem_range, bne_eq_false_iff_eq, Bool.not_eq_true, Bool.not_eq_true'] at this
      rw [show i + 1 + (l.length - 2) = i + l.length - 1 by omega] at this
      exact hb this.symm
    · exact h3
  have hf := List.findIdx_getElem (w := hlt)
  refine ⟨by unfold lenT; omega, by unfold lenT; omega, fun k hk => ?_, ?_⟩
  · match k with
    | 0 => rfl
    | k + 1 =>
      unfold lenT at hk
      have := List.not_of_lt_findIdx (show k < (List.range l.length).findIdx (fun k => gb l (i + 1 + k) != gb l i) by omega)
      simp at this
      rw [show i + (k + 1) = i + 1 + k by omega]; exact this
  · simp at hf
    unfold lenT
    rw [← Nat.add_assoc]; exact hf
theorem LenIs.eq {l : List Bool} {i n m : Nat} (h : LenIs l i n) (h' : LenIs l i m) : n = m := by
  rcases Nat.lt_trichotomy n m with h1 | h1 | h1
  · exact absurd (h'.same n h1) h.other
  · exact h1
  · exact absurd (h.same m h1) h'.other
theorem LenIs.begs {l : List Bool} {i n : Nat} (h : LenIs l i n) : ∀ k, 1 ≤ k → k < n → Go.Abs.begs l (i + k) = false := fun k h1 h2 => by
  have a := h.same k h2
  have b := h.same (k - 1) (by omega)
  have e : gb l (i + k + l.length - 1) = gb l (i + (k - 1)) := by
    rw [show i + k + l.length - 1 = i + (k - 1) + l.length by omega, gb_add]
  unfold Go.Abs.begs
  rw [e, a, b]; simp
theorem LenIs.end {l : List Bool} {i n : Nat} (h : LenIs l i n) : Go.Abs.begs l (i + n) = true := by
  have b := h.same (n - 1) (by have := h.pos; omega)
  have e : gb l (i + n + l.length - 1) = gb l (i + (n - 1)) := by
    have := h.pos
    rw [show i + n + l.length - 1 = i + (n - 1) + l.length by omega, gb_add]
  unfold Go.Abs.begs
  rw [e, b]
  simpa using h.other
theorem begs_mod (l : List Bool) (i : Nat) : begs l (i % l.length) = begs l i := by
  rcases Nat.eq_zero_or_pos l.length with h | h
  · rw [h, Nat.mod_zero]
  have hd := Nat.div_add_mod i l.length
  unfold begs
  rw [gb_mod]
  congr 1
  unfold gb
  congr 1
  conv => rhs; rw [← hd]
  rw [show l.length * (i / l.length) + i % l.length + l.length - 1 = (i % l.length + l.length - 1) + l.length * (i / l.length) by omega, Nat.add_mul_mod_self_left]

/-- no float begins -/
theorem endless_iff {l : List Bool} (h : 0 < l.length) : ((List.range l.length).any (begs l)) = false ↔ ∀ i, gb l i = gb l 0 := by
  constructor
  · intro hn
    have hs : ∀ i, i < l.length → gb l i = gb l 0 := by
      intro i
      induction i with
      | zero => intro _; rfl
      | succ i ih =>
        intro hi
        rw [List.any_eq_false] at hn
        have := hn (i + 1) (List.mem_range.2 hi)
        unfold begs at this
        rw [show i + 1 + l.length - 1 = i + l.length by omega, gb_add] at this
        simp at this
        rw [this]; exact ih (by omega)
    intro i
    rw [← gb_mod l i]
    exact hs _ (Nat.mod_lt _ h)
  · intro hs
    rw [List.any_eq_false]
    intro i _
    unfold begs
    rw [hs i, hs (i + l.length - 1)]; simp

structure RunT where
  first : Nat
  len : Nat
  up : Bool
def RunT.av (x : RunT) : AV := .agg [iv (x.first : Int), iv (x.len : Int), .bool x.up]
def runAt (l : List Bool) (i : Nat) : RunT := ⟨i, lenT l i, gb l i⟩
/-- the floats that begin before a point, and from a point on -/
def runsTo (l : List Bool) (i : Nat) : List RunT := ((List.range i).filter (begs l)).map (runAt l)
def runsFrom (l : List Bool) (i : Nat) : List RunT := ((List.range' i (l.length - i)).filter (begs l)).map (runAt l)
def anyTo (l : List Bool) (i : Nat) : Bool := (List.range i).any (begs l)
def lastT (l : List Bool) : List RunT := if anyTo l l.length then [] else [⟨0, 1000, gb l 0⟩]
/-- all floats of points that go round -/
def runsT (l : List Bool) : List RunT := runsTo l l.length ++ lastT l
theorem runsTo_succ (l : List Bool) (i : Nat) : runsTo l (i + 1) = runsTo l i ++ if begs l i then [runAt l i] else [] := by
  unfold runsTo
  rw [List.range_succ, List.filter_append, List.map_append]
  cases h : begs l i <;> simp [h]
theorem anyTo_succ (l : List Bool) (i : Nat) : anyTo l (i + 1) = (anyTo l i || begs l i) := by
  unfold anyTo
  rw [List.range_succ, List.any_append]; simp
theorem runsFrom_step {l : List Bool} {i : Nat} (h : i < l.length) : runsFrom l i = (if begs l i then [runAt l i] else []) ++ runsFrom l (i + 1) := by
  unfold runsFrom
  rw [show l.length - i = (l.length - (i + 1)) + 1 by omega, List.range'_succ]
  cases hb : begs l i <;> simp [hb]
theorem runsFrom_end (l : List Bool) : runsFrom l l.length = [] := by
  unfold runsFrom; rw [Nat.sub_self]; rfl
theorem runsFrom_zero (l : List Bool) : runsFrom l 0 = runsTo l l.length := by
  unfold runsFrom runsTo; rw [List.range_eq_range', Nat.sub_zero]
theorem anyTo_runs (l : List Bool) (i : Nat) : anyTo l i = false ↔ runsTo l i = [] := by
  unfold anyTo runsTo
  rw [List.map_eq_nil_iff, List.filter_eq_nil_iff, List.any_eq_false]
end Go.Abs
