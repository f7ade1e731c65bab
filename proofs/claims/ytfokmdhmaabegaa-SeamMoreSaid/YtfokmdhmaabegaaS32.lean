/-
  Chapter 7: the spans between two marks: what Ahead returns at each edge, in closed form. Plain.
-/
import Derived.Test.YtfokmdhmaabegaaS14
set_option linter.all false
namespace Go.Abs
set_option maxRecDepth 10000
set_option maxHeartbeats 1000000

theorem last_mark (ts : List Int) : ∀ j : Nat, ∃ f, f ≤ j ∧ (f = 0 ∨ (f : Int) ∈ ts) ∧ ∀ x : Nat, f < x → x ≤ j → ¬ (x : Int) ∈ ts
  | 0 => ⟨0, Nat.le_refl _, .inl rfl, fun x h1 h2 => by omega⟩
  | j + 1 => by
    by_cases h : ((j + 1 : Nat) : Int) ∈ ts
    · exact ⟨j + 1, Nat.le_refl _, .inr h, fun x h1 h2 => by omega⟩
    · obtain ⟨f, h1, h2, h3⟩ := last_mark ts j
      refine ⟨f, by omega, h2, fun x h4 h5 => ?_⟩
      by_cases e : x = j + 1
      · subst e; exact h
      · exact h3 x h4 (by omega)
theorem next_mark (ts : List Int) (n : Nat) : ∀ (k j : Nat), j + k = n → (∃ t, j ≤ t ∧ t ≤ n ∧ (t : Int) ∈ ts ∧ ∀ x : Nat, j ≤ x → x < t → ¬ (x : Int) ∈ ts) ∨ ∀ x : Nat, j ≤ x → x ≤ n → ¬ (x : Int) ∈ ts
  | 0, j, h => by
    by_cases c : (j : Int) ∈ ts
    · exact .inl ⟨j, Nat.le_refl _, by omega, c, fun x h1 h2 => by omega⟩
    · refine .inr fun x h1 h2 => ?_
      obtain rfl : x = j := by omega
      exact c
  | k + 1, j, h => by
    by_cases c : (j : Int) ∈ ts
    · exact .inl ⟨j, Nat.le_refl _, by omega, c, fun x h1 h2 => by omega⟩
    · rcases next_mark ts n k (j + 1) (by omega) with ⟨t, h1, h2, h3, h4⟩ | h1
      · refine .inl ⟨t, by omega, h2, h3, fun x h5 h6 => ?_⟩
        by_cases e : x = j
        · subst e; exact c
        · exact h4 x (by omega) h6
      · refine .inr fun x h5 h6 => ?_
        by_cases e : x = j
        · subst e; exact c
        · exact h1 x (by omega) h6

section
variable {wa wb : List Span} {ts : List Int} {n : Nat} (hla : wa.length = n) (hlb : wb.length = n)
include hla hlb

/-- a mark that is met: what is gained from the mark before it can be none -/
theorem met_mark (hgood : ∀ i, i < n → ¬ BadAt wa wb ts i) {f t : Nat} (hf : f = 0 ∨ (f : Int) ∈ ts) (hft : f < t) (ht : t ≤ n) (hm : (t : Int) ∈ ts) (hno : ∀ x : Nat, f < x → x < t → ¬ (x : Int) ∈ ts) : (dS (moreL wa wb) f t).Has0 := by
  have hl : wa.length = wb.length := by omega
  have h0 := fo_zero hla hlb (wa := wa) (wb := wb) (ts := ts) f hf
  have e := fo_seg hl h0 (e := t - 1) (by omega) (by omega) fun x h1 h2 => hno x h1 (by omega)
  have hb := hgood (t - 1) (by omega)
  have hz : (foR wa wb (fo wa wb ts (t - 1)) (t - 1)).Has0 := by
    apply Classical.byContradiction
    intro hz
    exact hb ⟨by rw [show (((t - 1 : Nat) : Int) + 1) = t by omega]; exact hm, hz⟩
  rw [e] at hz
  have hp := pre_more hl (show t - 1 < wa.length by omega)
  rw [show t - 1 + 1 = t by omega] at hp
  unfold foR Span.Has0 dS at hz
  unfold Span.Has0 dS
  rw [hp]
  dsimp only at hz ⊢
  omega

theorem out_mark {j : Nat} (hj : j ≤ n) (h : j = 0 ∨ (j : Int) ∈ ts) : outR wa wb ts n j = ⟨0, 0⟩ := by
  have h1 := fo_zero hla hlb (wa := wa) (wb := wb) (ts := ts) j h
  have h2 := ba_mark (wa := wa) (wb := wb) (ts0 := ts) (by omega) (e := j) (by omega) h
  rw [hla] at h2
  unfold outR
  rw [h1, h2]; simp
theorem out_between {f j t : Nat} (hf : f = 0 ∨ (f : Int) ∈ ts) (hfj : f < j) (hjt : j < t) (ht : t ≤ n) (hm : (t : Int) ∈ ts) (hno : ∀ x : Nat, f < x → x < t → ¬ (x : Int) ∈ ts) :
    outR wa wb ts n j = ⟨max (dS (moreL wa wb) f j).lo (0 - (dS (moreL wa wb) j t).hi), min (dS (moreL wa wb) f j).hi (0 - (dS (moreL wa wb) j t).lo)⟩ := by
  have hl : wa.length = wb.length := by omega
  have h0 := fo_zero hla hlb (wa := wa) (wb := wb) (ts := ts) f hf
  have e := fo_seg hl h0 (e := j) (by omega) (by omega) fun x h1 h2 => hno x h1 (by omega)
  have hb := ba_mark hl (ts0 := ts) (e := t) (by omega) (.inr hm)
  have hs := ba_seg hl (ts0 := ts) (t := t) (by omega) hb (t - j) (by omega) fun x h1 h2 => hno x (by omega) h2
  rw [show t - (t - j) = j by omega, hla] at hs
  unfold outR
  rw [e, hs]
theorem out_end (sm : Small (moreL wa wb)) {f j : Nat} (hf : f = 0 ∨ (f : Int) ∈ ts) (hfj : f < j) (hj : j ≤ n) (hno : ∀ x : Nat, f < x → x ≤ n → ¬ (x : Int) ∈ ts) : outR wa wb ts n j = dS (moreL wa wb) f j := by
  have hl : wa.length = wb.length := by omega
  have hml : (moreL wa wb).length = n := by simp [moreL]; omega
  have h0 := fo_zero hla hlb (wa := wa) (wb := wb) (ts := ts) f hf
  have e := fo_seg hl h0 (e := j) (by omega) (by omega) fun x h1 h2 => hno x h1 (by omega)
  have hs := ba_end hl (ts0 := ts) (n - j) (by omega) fun x h1 h2 => hno x (by omega) (by omega)
  rw [hla, show n - (n - j) = j by omega] at hs
  have b1 := dS_small sm (f := j) (e := n) (by omega) (by omega)
  have b2 := dS_small sm (f := f) (e := j) (by omega) (by omega)
  unfold outR
  rw [e, hs]
  dsimp only
  rw [Int.max_eq_left (by omega), Int.min_eq_left (by omega)]

/-- each span has its ends in order, and lies in what is gained from a mark before it -/
theorem out_span (sm : Small (moreL wa wb)) (om : ∀ i, (at' (moreL wa wb) i).lo ≤ (at' (moreL wa wb) i).hi) (hgood : ∀ i, i < n → ¬ BadAt wa wb ts i) {j : Nat} (hj : j ≤ n) :
    (outR wa wb ts n j).lo ≤ (outR wa wb ts n j).hi ∧ ∃ f, f ≤ j ∧ (dS (moreL wa wb) f j).lo ≤ (outR wa wb ts n j).lo ∧ (outR wa wb ts n j).hi ≤ (dS (moreL wa wb) f j).hi := by
  have hml : (moreL wa wb).length = n := by simp [moreL]; omega
  obtain ⟨f, h1, h2, h3⟩ := last_mark ts j
  by_cases e : f = j
  · subst e
    rw [out_mark hla hlb hj h2]
    exact ⟨by simp, f, Nat.le_refl _, by rw [dS_self]; simp⟩
  · have hord := fun a b (h : a ≤ b) (hb : b ≤ n) => by
      have := dS_ord om (f := a) (k := b - a) (by omega)
      rw [show a + (b - a) = b by omega] at this
      exact this
    have hfj := hord f j h1 hj
    rcases next_mark ts n (n - j) j (by omega) with ⟨t, k1, k2, k3, k4⟩ | k
    · have hjt : j < t := by
        by_cases e2 : j = t
        · subst e2; exact absurd k3 (h3 j (by omega) (Nat.le_refl _))
        · omega
      have hno : ∀ x : Nat, f < x → x < t → ¬ (x : Int) ∈ ts := fun x q1 q2 => by
        by_cases q : x ≤ j
        · exact h3 x q1 q
        · exact k4 x (by omega) q2
      have hz := met_mark hla hlb hgood h2 (by omega) k2 k3 hno
      have hjo := hord j t (by omega) k2
      have hsum : (dS (moreL wa wb) f t).lo = (dS (moreL wa wb) f j).lo + (dS (moreL wa wb) j t).lo ∧ (dS (moreL wa wb) f t).hi = (dS (moreL wa wb) f j).hi + (dS (moreL wa wb) j t).hi := by
        simp only [dS]; omega
      obtain ⟨z1, z2⟩ := hz
      rw [out_between hla hlb h2 (by omega) hjt k2 k3 hno]
      dsimp only
      exact ⟨by omega, f, h1, by omega, by omega⟩
    · have hno : ∀ x : Nat, f < x → x ≤ n → ¬ (x : Int) ∈ ts := fun x q1 q2 => by
        by_cases q : x ≤ j
        · exact h3 x q1 q
        · exact k x (by omega) q2
      rw [out_end hla hlb sm h2 (by omega) hj hno]
      exact ⟨hfj, f, h1, Int.le_refl _, Int.le_refl _⟩
end
end Go.Abs
