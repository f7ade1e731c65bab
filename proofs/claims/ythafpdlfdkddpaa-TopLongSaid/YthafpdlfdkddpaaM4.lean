/-
  The least repeat, in plain Lean: no program in sight.
-/
import Derived.Test.YthafpdlfdkddpaaM3
set_option linter.all false
namespace Go.Abs
set_option maxRecDepth 10000

/-- after so many, all is the same -/
def perAt (n : Nat) (P : Nat → Bool) (by' : Nat) : Bool := decide (1 ≤ by') && decide (n % by' = 0) && P by'
/-- the least number after which all is the same -/
def perT (n : Nat) (P : Nat → Bool) : Nat := ((List.range n).find? (perAt n P)).getD n
theorem perT_at {n : Nat} {P : Nat → Bool} {i : Nat} (h : i < n) (hi : perAt n P i = true) (hn : ∀ j, j < i → perAt n P j = false) : perT n P = i := by
  unfold perT
  rw [show (List.range n).find? (perAt n P) = some i from ?_]
  · rfl
  rw [List.find?_eq_some_iff_getElem]
  refine ⟨hi, i, by simpa using h, by simp, fun j hj => ?_⟩
  have := hn j hj
  simpa using this
theorem perT_no {n : Nat} {P : Nat → Bool} (hn : ∀ j, j < n → perAt n P j = false) : perT n P = n := by
  unfold perT
  rw [show (List.range n).find? (perAt n P) = none from ?_]
  · rfl
  rw [List.find?_eq_none]
  intro j hj
  rw [hn j (List.mem_range.1 hj)]; simp
theorem perT_in {n : Nat} {P : Nat → Bool} (h : 1 ≤ n) : 1 ≤ perT n P ∧ perT n P ≤ n := by
  by_cases hx : ∀ j, j < n → perAt n P j = false
  · rw [perT_no hx]; omega
  · unfold perT
    cases hf : (List.range n).find? (perAt n P) with
    | none => simp; omega
    | some k =>
      have h1 := List.find?_some hf
      have h2 := List.mem_range.1 (List.mem_of_find?_eq_some hf)
      unfold perAt at h1
      simp only [Bool.and_eq_true, decide_eq_true_eq] at h1
      simp; omega
theorem find_congr {α : Type} {l : List α} {p q : α → Bool} (h : ∀ x ∈ l, p x = q x) : l.find? p = l.find? q := by
  induction l with
  | nil => rfl
  | cons a l ih => rw [List.find?_cons, List.find?_cons, h a (by simp), ih fun x hx => h x (by simp [hx])]
theorem perT_congr {n : Nat} {P Q : Nat → Bool} (h : ∀ k, 1 ≤ k → k < n → n % k = 0 → P k = Q k) : perT n P = perT n Q := by
  unfold perT
  congr 1
  apply find_congr
  intro k hk
  have hk := List.mem_range.1 hk
  unfold perAt
  by_cases h1 : 1 ≤ k
  · by_cases h2 : n % k = 0
    · rw [h k h1 hk h2]
    · rw [decide_eq_false h2]; simp
  · rw [decide_eq_false h1]; simp
/-- the same as so many before, and as the first ones -/
theorem period_iff {α : Type} {f : Nat → α} {n k : Nat} (hk : 1 ≤ k) (hn : k < n) : (∀ i, i < n - k → f (i + k) = f i) ↔ ∀ i, i < n → f i = f (i % k) := by
  constructor
  · intro h i
    induction i using Nat.strongRecOn with
    | ind i ih =>
      intro hi
      rcases Nat.lt_or_ge i k with h1 | h1
      · rw [Nat.mod_eq_of_lt h1]
      · have := h (i - k) (by omega)
        rw [show i - k + k = i by omega] at this
        rw [this, ih (i - k) (by omega) (by omega), Nat.mod_eq_sub_mod h1]
  · intro h i hi
    rw [h (i + k) (by omega), h i (by omega), Nat.add_mod_right]
end Go.Abs
