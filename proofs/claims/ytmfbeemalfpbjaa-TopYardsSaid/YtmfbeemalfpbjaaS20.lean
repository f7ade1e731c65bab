/-
  Chapter 7, cutting: the errors of lengths that are cut, copies, comparisons.
-/
import Derived.Test.YtmfbeemalfpbjaaS5
import Derived.Test.YtmfbeemalfpbjaaWpE
set_option linter.all false
namespace Go.Abs
set_option maxRecDepth 10000
set_option maxHeartbeats 1000000

@[go_sem] theorem kast0 : ((0 : Nat) : Int) = 0 := id rfl
@[go_sem] theorem kast1 : ((1 : Nat) : Int) = 1 := id rfl

@[go_sem] theorem take_lenM {α β : Type} (f : α → β) (l : List α) : List.take l.length (List.map f l) = List.map f l := List.take_of_length_le (by simp)

structure Cut where
  b : Int
  p : Int
def Cut.av (c : Cut) : AV := .agg [iv c.b, iv c.p]
@[go_sem] theorem cut_plain (l : List Cut) : (l.map Cut.av).all AV.plain = true := by
  simp [Cut.av, AV.plain, AV.plain1]

abbrev CutBad (r : Int) (c : Cut) : Prop := ¬ (1 ≤ c.p ∧ c.p ≤ 200) ∨ ¬ (0 ≤ c.b ∧ c.b ≤ r - 1)
open Classical in
/-- the error of a repeat, bad picks, and lengths -/
noncomputable def cutsE (r : Int) (bad : List Int) (l : List Cut) : Int :=
  if ¬ (1 ≤ r ∧ r ≤ 100) then 3 else if 40 < bad.length ∨ 8 < l.length then 5 else if (bad.all fun n => decide (0 ≤ n ∧ n ≤ 100000)) = false then 2
  else if (l.any fun c => decide (CutBad r c)) = true then 2 else if ∃ i : Nat, i + 1 < bad.length ∧ bad[i + 1]?.getD 0 ≤ bad[i]?.getD 0 then 6 else 0

structure CutsOk (r : Int) (bad : List Int) (l : List Cut) : Prop where
  rr : 1 ≤ r ∧ r ≤ 100
  lb : bad.length ≤ 40
  ll : l.length ≤ 8
  bb : ∀ b ∈ bad, 0 ≤ b ∧ b ≤ 100000
  cc : ∀ c ∈ l, (1 ≤ c.p ∧ c.p ≤ 200) ∧ (0 ≤ c.b ∧ c.b ≤ r - 1)
theorem cutsE_zero {r : Int} {bad : List Int} {l : List Cut} (h : cutsE r bad l = 0) : CutsOk r bad l := by
  unfold cutsE at h
  by_cases h1 : 1 ≤ r ∧ r ≤ 100
  · rw [if_neg (by simp [h1])] at h
    by_cases h2 : 40 < bad.length ∨ 8 < l.length
    · rw [if_pos h2] at h; omega
    · rw [if_neg h2] at h
      by_cases h3 : (bad.all fun n => decide (0 ≤ n ∧ n ≤ 100000)) = false
      · rw [if_pos h3] at h; omega
      · rw [if_neg h3] at h
        by_cases h4 : (l.any fun c => decide (CutBad r c)) = true
        · rw [if_pos h4] at h; omega
        · refine ⟨h1, by omega, by omega, fun b hb => ?_, fun c hc => ?_⟩
          · rw [Bool.not_eq_false, List.all_eq_true] at h3
            exact of_decide_eq_true (h3 b hb)
          · rw [Bool.not_eq_true, List.any_eq_false] at h4
            have := h4 c hc
            simp only [decide_eq_true_eq, CutBad] at this
            omega
  · rw [if_pos h1] at h; omega

end Go.Abs

