/-
  Chapter 7: a truth lies in the spans, at each edge. Plain.
-/
import Derived.Test.YtfokmdhmaabegaaS36
import Derived.Test.YtfokmdhmaabegaaS34
set_option linter.all false
namespace Go.Abs
set_option maxRecDepth 10000
set_option maxHeartbeats 1000000

section
variable {wa wb : List Span} {ts tA tB : List Int} {n : Nat} (hla : wa.length = n) (hlb : wb.length = n) (hfit : ∀ i, i < n → FitT wa wb tA tB i) (hm : ∀ i : Nat, i ≤ n → (i : Int) ∈ ts → ahT tA tB i = 0)
include hfit hm

theorem truth_fo : ∀ {i : Nat}, i ≤ n → (fo wa wb ts i).lo ≤ ahT tA tB i ∧ ahT tA tB i ≤ (fo wa wb ts i).hi
  | 0, _ => by simp [fo, ahT]
  | i + 1, h => by
    have ih := truth_fo (i := i) (by omega)
    obtain ⟨h1, h2⟩ := hfit i (by omega)
    by_cases c : ((i : Int) + 1) ∈ ts
    · have := hm (i + 1) h (by simpa using c)
      rw [this, fo, if_pos c]; simp
    · rw [fo, if_neg c]
      simp only [foR, ahT]
      omega
theorem truth_good : ∀ i, i < n → ¬ BadAt wa wb ts i := by
  rintro i hi ⟨h1, h2⟩
  have ih := truth_fo hfit hm (i := i) (by omega)
  obtain ⟨k1, k2⟩ := hfit i hi
  have := hm (i + 1) hi (by simpa using h1)
  simp only [ahT] at this
  apply h2
  unfold foR Span.Has0
  dsimp only
  omega
theorem truth_ba (hb : -1099511627776 ≤ ahT tA tB n ∧ ahT tA tB n ≤ 1099511627776) : ∀ {d : Nat}, d ≤ n → (baD wa wb ts n d).lo ≤ ahT tA tB (n - d) ∧ ahT tA tB (n - d) ≤ (baD wa wb ts n d).hi
  | 0, _ => by
    rw [Nat.sub_zero, baD]
    by_cases c : (n : Int) = 0 ∨ (n : Int) ∈ ts
    · rw [if_pos c]
      have : ahT tA tB n = 0 := by
        rcases c with c | c
        · obtain rfl : n = 0 := by omega
          rfl
        · exact hm n (Nat.le_refl _) c
      rw [this]; simp
    · rw [if_neg c]; exact hb
  | d + 1, h => by
    have ih := truth_ba hb (d := d) (by omega)
    obtain ⟨h1, h2⟩ := hfit (n - (d + 1)) (by omega)
    rw [baD]
    by_cases c : (n : Int) - ((d + 1 : Nat) : Int) = 0 ∨ (n : Int) - ((d + 1 : Nat) : Int) ∈ ts
    · rw [if_pos c]
      have e : (n : Int) - ((d + 1 : Nat) : Int) = ((n - (d + 1) : Nat) : Int) := by omega
      rw [e] at c
      have : ahT tA tB (n - (d + 1)) = 0 := by
        rcases c with c | c
        · rw [show n - (d + 1) = 0 by omega]; rfl
        · exact hm _ (by omega) c
      rw [this]; simp
    · rw [if_neg c]
      have e : n - d = n - (d + 1) + 1 := by omega
      rw [e] at ih
      simp only [ahT] at ih
      dsimp only
      omega
theorem truth_out (hb : -1099511627776 ≤ ahT tA tB n ∧ ahT tA tB n ≤ 1099511627776) {j : Nat} (hj : j ≤ n) : (outR wa wb ts n j).lo ≤ ahT tA tB j ∧ ahT tA tB j ≤ (outR wa wb ts n j).hi := by
  have h1 := truth_fo hfit hm hj
  have h2 := truth_ba hfit hm hb (d := n - j) (by omega)
  rw [show n - (n - j) = j by omega] at h2
  unfold outR
  dsimp only
  omega
end
end Go.Abs
