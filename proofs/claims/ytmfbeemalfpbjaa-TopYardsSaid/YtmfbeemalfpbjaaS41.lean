/-
  Chapter 7, cutting: lengths shared out to pieces. Plain.
-/
import Derived.Test.YtmfbeemalfpbjaaS27
set_option linter.all false
namespace Go.Abs
set_option maxRecDepth 10000
set_option maxHeartbeats 1000000

section
variable {r : Int} {bad : List Int} {l : List Cut}
theorem comp_filter (hv : CutsOk r bad l) (p : Nat → Bool) : ∀ (o : List Nat) {f g : Int}, 0 ≤ f → f ≤ g → (∀ i ∈ o, i < l.length) → comp r bad l (o.filter p) f ≤ comp r bad l o g
  | [], f, g, h0, h, _ => h
  | i :: o, f, g, h0, h, hi => by
    have h1 := hi i (by simp)
    have b := endF_bound hv (f := g) (by omega) h1
    have m := endF_mono hv h1 h0 h
    have e : comp r bad l (i :: o) g = comp r bad l o (endF r bad l g i) := rfl
    rw [e]
    have hi' : ∀ j ∈ o, j < l.length := fun j hj => hi j (List.mem_cons_of_mem _ hj)
    by_cases c : p i = true
    · rw [List.filter_cons_of_pos c]
      have b2 := endF_bound hv (f := f) h0 h1
      exact comp_filter hv p o (f := endF r bad l f i) (by omega) m hi'
    · rw [List.filter_cons_of_neg c]
      exact comp_filter hv p o h0 (by omega) hi'
theorem best_sub (hv : CutsOk r bad l) {p q : Nat → Bool} (h : ∀ i, i < l.length → p i = true → q i = true) {x y : Int} (hp : Best r bad l p 0 y) (hq : Best r bad l q 0 x) : y ≤ x := by
  obtain ⟨⟨o, ho, hc⟩, _⟩ := hq
  have h1 : IsOrd l.length p (o.filter p) := ⟨ho.1.filter _, fun i => by
    rw [List.mem_filter, ho.2]
    constructor
    · rintro ⟨⟨h1, _⟩, h3⟩; exact ⟨h1, h3⟩
    · rintro ⟨h1, h2⟩; exact ⟨⟨h1, h i h1 h2⟩, h2⟩⟩
  have := hp.2 _ h1
  have := comp_filter hv p o (Int.le_refl 0) (Int.le_refl 0) fun i hi => ((ho.2 i).1 hi).1
  omega

/-- lengths that can be cut out of a piece of so many picks -/
def Feas (r : Int) (bad : List Int) (l : List Cut) (m : Int) (p : Nat → Bool) : Prop := ∃ x, Best r bad l p 0 x ∧ x ≤ m
theorem feas_mono (hv : CutsOk r bad l) {m : Int} {p q : Nat → Bool} (h : ∀ i, i < l.length → p i = true → q i = true) (hq : Feas r bad l m q) : Feas r bad l m p := by
  obtain ⟨x, hx, hm⟩ := hq
  obtain ⟨y, hy⟩ := best_exists hv _ p 0 rfl
  have := best_sub hv h hy hx
  exact ⟨y, hy, by omega⟩
theorem feas_none {m : Int} (h0 : 0 ≤ m) {p : Nat → Bool} (h : ∀ i, i < l.length → p i = false) : Feas r bad l m p := ⟨0, (best_none h).2 rfl, h0⟩
theorem feas_iff {m : Int} {p : Nat → Bool} {x : Int} (h : Best r bad l p 0 x) : Feas r bad l m p ↔ x ≤ m :=
  ⟨fun ⟨_, h1, h2⟩ => by rw [h.uniq h1]; exact h2, fun h2 => ⟨x, h, h2⟩⟩
end

/-! ### Sharing out -/
section
variable {n : Nat} {P : (Nat → Bool) → Prop}
/-- so many pieces are enough for a set -/
def Asg (n : Nat) (P : (Nat → Bool) → Prop) (s : Nat → Bool) (m : Nat) : Prop := ∃ h : Nat → Nat, (∀ i, i < n → s i = true → h i < m) ∧ ∀ j, j < m → P fun i => s i && decide (h i = j)
def LeastAsg (n : Nat) (P : (Nat → Bool) → Prop) (s : Nat → Bool) (m : Nat) : Prop := Asg n P s m ∧ ∀ m', Asg n P s m' → m ≤ m'
theorem LeastAsg.uniq {s : Nat → Bool} {m m' : Nat} (h : LeastAsg n P s m) (h' : LeastAsg n P s m') : m = m' := Nat.le_antisymm (h.2 _ h'.1) (h'.2 _ h.1)

variable (hmono : ∀ p q : Nat → Bool, (∀ i, i < n → p i = true → q i = true) → P q → P p)
include hmono
theorem asg_congr {s s' : Nat → Bool} (h : ∀ i, i < n → s i = s' i) {m : Nat} (ha : Asg n P s m) : Asg n P s' m := by
  obtain ⟨f, h1, h2⟩ := ha
  exact ⟨f, fun i hi hs => h1 i hi (by rw [h i hi]; exact hs), fun j hj => hmono _ _ (fun i hi hp => by rw [h i hi]; exact hp) (h2 j hj)⟩
theorem leastAsg_congr {s s' : Nat → Bool} (h : ∀ i, i < n → s i = s' i) {m : Nat} (ha : LeastAsg n P s m) : LeastAsg n P s' m :=
  ⟨asg_congr hmono h ha.1, fun m' h' => ha.2 m' (asg_congr hmono (fun i hi => (h i hi).symm) h')⟩
theorem asg_none {s : Nat → Bool} (h : ∀ i, i < n → s i = false) : LeastAsg n P s 0 :=
  ⟨⟨fun _ => 0, ⟨fun i hi hs => (by rw [h i hi] at hs; cases hs), fun j hj => absurd hj (Nat.not_lt_zero _)⟩⟩, fun _ _ => Nat.zero_le _⟩
/-- a piece more -/
theorem asg_add {s t : Nat → Bool} {m : Nat} (ht : P t) (h : Asg n P (fun i => s i && !t i) m) : Asg n P s (m + 1) := by
  obtain ⟨f, h1, h2⟩ := h
  refine ⟨fun i => if t i then m else f i, fun i hi hs => ?_, fun j hj => ?_⟩
  · by_cases c : t i = true
    · simp [c]
    · have := h1 i hi (by simp [hs, c])
      simp only [c]; simp; omega
  · by_cases e : j = m
    · subst e
      refine hmono _ _ (fun i hi hp => ?_) ht
      by_cases c : t i = true
      · exact c
      · simp only [c, Bool.and_eq_true, decide_eq_true_eq] at hp
        simp at hp
        have := h1 i hi (by simp [hp.1, c])
        omega
    · refine hmono _ _ (fun i hi hp => ?_) (h2 j (by omega))
      by_cases c : t i = true
      · simp [c] at hp; omega
      · simp only [c, Bool.and_eq_true, decide_eq_true_eq] at hp ⊢
        simp at hp ⊢
        exact hp
/-- a piece less -/
theorem asg_sub {s : Nat → Bool} {m : Nat} {i0 : Nat} (hi0 : i0 < n) (hs : s i0 = true) (h : Asg n P s m) : ∃ t : Nat → Bool, P t ∧ (∀ i, t i = true → s i = true) ∧ t i0 = true ∧ 1 ≤ m ∧ Asg n P (fun i => s i && !t i) (m - 1) := by
  obtain ⟨f, h1, h2⟩ := h
  have hm := h1 i0 hi0 hs
  refine ⟨fun i => s i && decide (f i = f i0), h2 _ hm, fun i h => by simp at h; exact h.1, by simp [hs], by omega, fun i => if f i = m - 1 then f i0 else f i, fun i hi hp => ?_, fun j hj => ?_⟩
  · simp at hp
    have := h1 i hi hp.1
    have h3 : ¬ f i = f i0 := by
      rcases hp.2 with h | h
      · rw [hp.1] at h; cases h
      · exact h
    dsimp only
    split <;> omega
  · by_cases e : j = f i0
    · subst e
      refine hmono _ _ (fun i hi hp => ?_) (h2 (m - 1) (by omega))
      simp only [Bool.and_eq_true, Bool.not_eq_true', decide_eq_true_eq] at hp ⊢
      obtain ⟨⟨q1, q2⟩, q3⟩ := hp
      refine ⟨q1, ?_⟩
      by_cases c : f i = m - 1
      · exact c
      · rw [if_neg c] at q3
        simp [q1, q3] at q2
    · refine hmono _ _ (fun i hi hp => ?_) (h2 j (by omega))
      simp only [Bool.and_eq_true, Bool.not_eq_true', decide_eq_true_eq] at hp ⊢
      obtain ⟨⟨q1, q2⟩, q3⟩ := hp
      refine ⟨q1, ?_⟩
      by_cases c : f i = m - 1
      · rw [if_pos c] at q3; exact absurd q3.symm e
      · rw [if_neg c] at q3; exact q3
theorem asg_singles (h1 : ∀ i, i < n → P fun j => decide (j = i)) (s : Nat → Bool) : Asg n P s n :=
  ⟨fun i => i, fun i hi _ => hi, fun j hj => hmono _ _ (fun i _ hp => by simp at hp; simp [hp.2]) (h1 j hj)⟩
theorem asg_single_of {s : Nat → Bool} {m : Nat} (h : Asg n P s m) {i : Nat} (hi : i < n) (hs : s i = true) : P fun j => decide (j = i) := by
  obtain ⟨f, h1, h2⟩ := h
  exact hmono _ _ (fun k _ hp => by simp at hp; subst hp; simp [hs]) (h2 _ (h1 i hi hs))
end

/-! ### Parts of a set of bits, the greatest first -/
theorem sub_next : ∀ (s p t : Nat), p &&& s = p → t &&& s = t → t < p → t ≤ (p - 1) &&& s
  | s, p, t, hp, ht, h => by
    have bit : ∀ a b : Nat, a &&& b = 2 * (a / 2 &&& b / 2) + (a % 2) * (b % 2) := by
      intro a b
      have e1 : (a &&& b) / 2 = a / 2 &&& b / 2 := by
        have := Nat.and_div_two_pow (a := a) (b := b) (n := 1)
        simpa using this
      have e2 : (a &&& b) % 2 = (a % 2) * (b % 2) := by
        have := Nat.and_mod_two_pow (a := a) (b := b) (n := 1)
        rw [Nat.pow_one] at this
        rw [this]
        rcases Nat.mod_two_eq_zero_or_one a with h1 | h1 <;> rcases Nat.mod_two_eq_zero_or_one b with h2 | h2 <;> simp [h1, h2]
      omega
    by_cases h0 : p = 0
    · omega
    have b1 := bit p s
    have b2 := bit t s
    have b3 := bit (p - 1) s
    rw [hp] at b1
    rw [ht] at b2
    have m1 : (p % 2) * (s % 2) ≤ 1 := by rcases Nat.mod_two_eq_zero_or_one p with h1 | h1 <;> rcases Nat.mod_two_eq_zero_or_one s with h2 | h2 <;> simp [h1, h2]
    have m2 : (t % 2) * (s % 2) ≤ 1 := by rcases Nat.mod_two_eq_zero_or_one t with h1 | h1 <;> rcases Nat.mod_two_eq_zero_or_one s with h2 | h2 <;> simp [h1, h2]
    have hp' : p / 2 &&& s / 2 = p / 2 := by omega
    have ht' : t / 2 &&& s / 2 = t / 2 := by omega
    rcases Nat.mod_two_eq_zero_or_one p with c | c
    · have e1 : (p - 1) / 2 = p / 2 - 1 := by omega
      have e2 : (p - 1) % 2 = 1 := by omega
      rw [e1, e2] at b3
      have ih := sub_next (s / 2) (p / 2) (t / 2) hp' ht' (by omega)
      have : (t % 2) * (s % 2) ≤ s % 2 := by rcases Nat.mod_two_eq_zero_or_one t with h1 | h1 <;> simp [h1]
      omega
    · have e1 : (p - 1) / 2 = p / 2 := by omega
      have e2 : (p - 1) % 2 = 0 := by omega
      rw [e1, e2, hp'] at b3
      omega
theorem and_sub (s p : Nat) : (p &&& s) &&& s = p &&& s := by rw [Nat.and_assoc, Nat.and_self]
theorem mask_bit {s t i : Nat} (h : t &&& s = t) (hi : t.testBit i = true) : s.testBit i = true := by
  rw [← h, Nat.testBit_and, Bool.and_eq_true] at hi; exact hi.2
/-- a set of numbers below n, as bits -/
theorem mask_of (n : Nat) (p : Nat → Bool) : ∃ t, t < 2 ^ n ∧ ∀ i, t.testBit i = (decide (i < n) && p i) := by
  induction n with
  | zero => exact ⟨0, by simp, fun i => by simp⟩
  | succ n ih =>
    obtain ⟨t, h1, h2⟩ := ih
    refine ⟨if p n then t ||| 2 ^ n else t, ?_, fun i => ?_⟩
    · split
      · exact Nat.or_lt_two_pow (Nat.lt_of_lt_of_le h1 (Nat.pow_le_pow_right (by omega) (by omega))) (Nat.pow_lt_pow_right (by omega) (by omega))
      · exact Nat.lt_of_lt_of_le h1 (Nat.pow_le_pow_right (by omega) (by omega))
    · by_cases c : p n = true
      · rw [if_pos c, Nat.testBit_or, h2, Nat.testBit_two_pow]
        by_cases e : n = i
        · subst e; simp [c]
        · simp only [e, decide_false, Bool.or_false]
          have : decide (i < n + 1) = decide (i < n) := by apply decide_eq_decide.2; omega
          rw [this]
      · rw [if_neg c, h2]
        by_cases e : i = n
        · subst e; simp [c]
        · have : decide (i < n + 1) = decide (i < n) := by apply decide_eq_decide.2; omega
          rw [this]
end Go.Abs

