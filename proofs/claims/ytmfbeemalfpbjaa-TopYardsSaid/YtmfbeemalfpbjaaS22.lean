/-
  Chapter 7, cutting: where a length can start: contracts of Fine, Start, start.
-/
import Derived.Test.YtmfbeemalfpbjaaS21
set_option linter.all false
namespace Go.Abs
set_option maxRecDepth 10000
set_option maxHeartbeats 1000000

def FineAt (bad : List Int) (s p : Int) : Prop := ∀ b ∈ bad, ¬ (s ≤ b ∧ b ≤ s + p - 1)
def OkAt (r : Int) (bad : List Int) (c : Cut) (s : Int) : Prop := s % r = c.b ∧ FineAt bad s c.p
structure IsStart (r : Int) (bad : List Int) (c : Cut) (f s : Int) : Prop where
  le : f ≤ s
  ok : OkAt r bad c s
  no : ∀ x, f ≤ x → x < s → ¬ OkAt r bad c x
theorem IsStart.uniq {r : Int} {bad : List Int} {c : Cut} {f s s' : Int} (h : IsStart r bad c f s) (h' : IsStart r bad c f s') : s = s' := by
  rcases Int.lt_trichotomy s s' with q | q | q
  · exact absurd h.ok (h'.no s h.le q)
  · exact q
  · exact absurd h'.ok (h.no s' h'.le q)

open Classical in
noncomputable def stepS (r : Int) (bad : List Int) (c : Cut) : Nat → Int → Int
  | 0, x => x
  | k + 1, x => if OkAt r bad c x then x else stepS r bad c k (x + 1)
/-- the first pick, from one on, at which a length can start -/
noncomputable def startF (r : Int) (bad : List Int) (c : Cut) (f : Int) : Int := stepS r bad c 100200 f
theorem step_spec {r : Int} {bad : List Int} {c : Cut} : ∀ (k : Nat) (x y : Int), x ≤ y → y ≤ x + k → OkAt r bad c y → IsStart r bad c x (stepS r bad c k x) ∧ stepS r bad c k x ≤ y
  | 0, x, y, h1, h2, h3 => by
    obtain rfl : y = x := by omega
    exact ⟨⟨Int.le_refl _, h3, fun z h1 h2 => by simp only [stepS] at h2; omega⟩, Int.le_refl _⟩
  | k + 1, x, y, h1, h2, h3 => by
    simp only [stepS]
    by_cases c : OkAt r bad c x
    · rw [if_pos c]
      exact ⟨⟨Int.le_refl _, c, fun z h1 h2 => by omega⟩, h1⟩
    · rw [if_neg c]
      have hne : x ≠ y := fun e => c (e ▸ h3)
      obtain ⟨⟨i1, i2, i3⟩, i4⟩ := step_spec k (x + 1) y (by omega) (by omega) h3
      refine ⟨⟨by omega, i2, fun z q1 q2 => ?_⟩, i4⟩
      by_cases e : z = x
      · subst e; exact c
      · exact i3 z (by omega) q2

/-- the next pick with a remainder -/
theorem next_rem {r b x : Int} (hr : 0 < r) (hb : 0 ≤ b ∧ b < r) : (x + (b + r - x % r) % r) % r = b ∧ 0 ≤ (b + r - x % r) % r ∧ (b + r - x % r) % r < r ∧ ∀ y, x ≤ y → y < x + (b + r - x % r) % r → y % r ≠ b := by
  have h1 := Int.emod_nonneg (b + r - x % r) (by omega : r ≠ 0)
  have h2 := Int.emod_lt_of_pos (b + r - x % r) hr
  have hx : x = r * (x / r) + x % r := (Int.mul_ediv_add_emod x r).symm
  have hq : b + r - x % r = r * ((b + r - x % r) / r) + (b + r - x % r) % r := (Int.mul_ediv_add_emod _ r).symm
  have h3 : (x + (b + r - x % r) % r) % r = b := by
    have e : x + (b + r - x % r) % r = b + r * (x / r + 1 - (b + r - x % r) / r) := by
      rw [Int.mul_sub, Int.mul_add, Int.mul_one]; omega
    rw [e, Int.add_mul_emod_self_left, Int.emod_eq_of_lt hb.1 hb.2]
  refine ⟨h3, h1, h2, fun y q1 q2 q3 => ?_⟩
  have h4 : (x + (b + r - x % r) % r - y) % r = 0 := Int.emod_eq_emod_iff_emod_sub_eq_zero.1 (by rw [h3, q3])
  rw [Int.emod_eq_of_lt (by omega) (by omega)] at h4
  omega

theorem ok_exists {r : Int} {bad : List Int} {c : Cut} (hr : 1 ≤ r ∧ r ≤ 100) (hbad : ∀ b ∈ bad, 0 ≤ b ∧ b ≤ 100000) (hc : 0 ≤ c.b ∧ c.b ≤ r - 1) (f : Int) : ∃ y, f ≤ y ∧ y ≤ max f 100001 + 100 ∧ OkAt r bad c y := by
  obtain ⟨h1, h2, h3, _⟩ := next_rem (r := r) (b := c.b) (x := max f 100001) (by omega) (by omega)
  refine ⟨max f 100001 + (c.b + r - (max f 100001) % r) % r, by omega, by omega, h1, fun b hb q => ?_⟩
  have := hbad b hb
  omega
theorem start_spec {r : Int} {bad : List Int} {c : Cut} (hr : 1 ≤ r ∧ r ≤ 100) (hbad : ∀ b ∈ bad, 0 ≤ b ∧ b ≤ 100000) (hc : 0 ≤ c.b ∧ c.b ≤ r - 1) {f : Int} (hf : 0 ≤ f) : IsStart r bad c f (startF r bad c f) ∧ startF r bad c f ≤ max f 100001 + 100 := by
  obtain ⟨y, h1, h2, h3⟩ := ok_exists hr hbad hc f
  have := step_spec 100200 f y h1 (by omega) h3
  exact ⟨this.1, by have := this.2; unfold startF; omega⟩
/-- a later length starts no earlier -/
theorem start_mono {r : Int} {bad : List Int} {c : Cut} (hr : 1 ≤ r ∧ r ≤ 100) (hbad : ∀ b ∈ bad, 0 ≤ b ∧ b ≤ 100000) (hc : 0 ≤ c.b ∧ c.b ≤ r - 1) {f f' : Int} (hf : 0 ≤ f) (h : f ≤ f') : startF r bad c f ≤ startF r bad c f' := by
  have h1 := (start_spec hr hbad hc hf).1
  have h2 := (start_spec hr hbad hc (by omega : 0 ≤ f')).1
  apply Classical.byContradiction
  intro q
  exact h1.no _ (by have := h2.le; omega) (by omega) h2.ok

theorem tmod_of {a b : Int} (h : 0 ≤ a) : Int.tmod a b = a % b := Int.tmod_eq_emod_of_nonneg h

end Go.Abs

