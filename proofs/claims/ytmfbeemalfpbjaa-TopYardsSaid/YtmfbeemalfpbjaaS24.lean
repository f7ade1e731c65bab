/-
  Chapter 7, cutting: orders of lengths, and the least piece of all orders. Plain, and the contract of the reference's Need.
-/
import Derived.Test.YtmfbeemalfpbjaaS23
import Derived.Test.YtmfbeemalfpbjaaBits
set_option linter.all false
namespace Go.Abs
set_option maxRecDepth 10000
set_option maxHeartbeats 1000000

def cutAt (l : List Cut) (i : Nat) : Cut := l[i]?.getD ⟨0, 1⟩
theorem cutAt_eq {l : List Cut} {i : Nat} (h : i < l.length) : l[i]? = some (cutAt l i) := by simp [cutAt, h]
theorem cutAt_mem {l : List Cut} {i : Nat} (h : i < l.length) : cutAt l i ∈ l := List.mem_of_getElem? (cutAt_eq h)

section
variable (r : Int) (bad : List Int) (l : List Cut)
/-- where a length ends that is cut from a pick on -/
noncomputable def endF (f : Int) (i : Nat) : Int := startF r bad (cutAt l i) f + (cutAt l i).p
/-- where the last one of some lengths ends -/
noncomputable def comp (o : List Nat) (f : Int) : Int := o.foldl (endF r bad l) f
/-- an order of a set -/
def IsOrd (n : Nat) (p : Nat → Bool) (o : List Nat) : Prop := o.Nodup ∧ ∀ i, i ∈ o ↔ (i < n ∧ p i = true)
def less (p : Nat → Bool) (i : Nat) : Nat → Bool := fun j => p j && decide (j ≠ i)
/-- the least of all orders -/
def Best (p : Nat → Bool) (f x : Int) : Prop := (∃ o, IsOrd l.length p o ∧ comp r bad l o f = x) ∧ ∀ o, IsOrd l.length p o → x ≤ comp r bad l o f
end

section
variable {r : Int} {bad : List Int} {l : List Cut}
theorem Best.uniq {p : Nat → Bool} {f x y : Int} (h : Best r bad l p f x) (h' : Best r bad l p f y) : x = y := by
  obtain ⟨⟨o, h1, h2⟩, h3⟩ := h
  obtain ⟨⟨o', h1', h2'⟩, h3'⟩ := h'
  have := h3 o' h1'
  have := h3' o h1
  omega
theorem best_congr {p q : Nat → Bool} {f x : Int} (h : ∀ i, i < l.length → p i = q i) (hb : Best r bad l p f x) : Best r bad l q f x := by
  have key : ∀ o, IsOrd l.length p o ↔ IsOrd l.length q o := by
    intro o
    unfold IsOrd
    refine and_congr Iff.rfl (forall_congr' fun i => ?_)
    by_cases hi : i < l.length
    · rw [h i hi]
    · simp [hi]
  exact ⟨by obtain ⟨o, h1, h2⟩ := hb.1; exact ⟨o, (key o).1 h1, h2⟩, fun o ho => hb.2 o ((key o).2 ho)⟩
theorem ord_nil {n : Nat} {p : Nat → Bool} (h : ∀ i, i < n → p i = false) {o : List Nat} (ho : IsOrd n p o) : o = [] := by
  cases o with
  | nil => rfl
  | cons a o =>
    have := (ho.2 a).1 (by simp)
    rw [h a this.1] at this
    simp at this
theorem best_none {p : Nat → Bool} {f x : Int} (h : ∀ i, i < l.length → p i = false) : Best r bad l p f x ↔ x = f := by
  constructor
  · rintro ⟨⟨o, h1, h2⟩, _⟩
    rw [ord_nil h h1] at h2
    exact h2.symm
  · rintro rfl
    refine ⟨⟨[], ⟨List.nodup_nil, fun i => ?_⟩, rfl⟩, fun o ho => ?_⟩
    · constructor
      · intro h; cases h
      · rintro ⟨h1, h2⟩; rw [h i h1] at h2; cases h2
    · rw [ord_nil h ho]; exact Int.le_refl _
theorem ord_cons {n : Nat} {p : Nat → Bool} {a : Nat} {o : List Nat} : IsOrd n p (a :: o) ↔ (a < n ∧ p a = true) ∧ IsOrd n (less p a) o := by
  unfold IsOrd less
  rw [List.nodup_cons]
  constructor
  · rintro ⟨⟨h1, h2⟩, h3⟩
    refine ⟨(h3 a).1 (by simp), h2, fun i => ?_⟩
    have := h3 i
    simp only [List.mem_cons] at this
    constructor
    · intro hi
      have hne : i ≠ a := fun e => h1 (e ▸ hi)
      have := this.1 (.inr hi)
      simp [this.1, this.2, hne]
    · rintro ⟨q1, q2⟩
      simp only [Bool.and_eq_true, decide_eq_true_eq] at q2
      exact (this.2 ⟨q1, q2.1⟩).resolve_left q2.2
  · rintro ⟨h1, h2, h3⟩
    refine ⟨⟨fun h => ?_, h2⟩, fun i => ?_⟩
    · have := (h3 a).1 h
      simp at this
    · rw [List.mem_cons, h3 i]
      simp only [Bool.and_eq_true, decide_eq_true_eq]
      constructor
      · rintro (rfl | ⟨q1, q2⟩)
        · exact h1
        · exact ⟨q1, q2.1⟩
      · rintro ⟨q1, q2⟩
        by_cases e : i = a
        · exact .inl e
        · exact .inr ⟨q1, q2, e⟩
theorem ord_snoc {n : Nat} {p : Nat → Bool} {a : Nat} {o : List Nat} : IsOrd n p (o ++ [a]) ↔ (a < n ∧ p a = true) ∧ IsOrd n (less p a) o := by
  rw [← ord_cons]
  unfold IsOrd
  have e : (o ++ [a]).Perm (a :: o) := by simpa using List.perm_append_comm (l₁ := o) (l₂ := [a])
  rw [e.nodup_iff]
  exact and_congr Iff.rfl (forall_congr' fun i => by rw [e.mem_iff])

/-- first things first -/
theorem best_first {p : Nat → Bool} {f : Int} {xs : Nat → Int} (hx : ∀ i, i < l.length → p i = true → Best r bad l (less p i) (endF r bad l f i) (xs i)) {x : Int} (h1 : ∃ i, i < l.length ∧ p i = true ∧ xs i = x) (h2 : ∀ i, i < l.length → p i = true → x ≤ xs i) : Best r bad l p f x := by
  refine ⟨?_, fun o ho => ?_⟩
  · obtain ⟨i, q1, q2, q3⟩ := h1
    obtain ⟨o, q4, q5⟩ := (hx i q1 q2).1
    exact ⟨i :: o, ord_cons.2 ⟨⟨q1, q2⟩, q4⟩, by rw [← q3, ← q5]; rfl⟩
  · cases o with
    | nil =>
      obtain ⟨i, q1, q2, _⟩ := h1
      have := (ho.2 i).2 ⟨q1, q2⟩
      cases this
    | cons a o =>
      obtain ⟨⟨q1, q2⟩, q3⟩ := ord_cons.1 ho
      have := (hx a q1 q2).2 o q3
      have := h2 a q1 q2
      show x ≤ comp r bad l o (endF r bad l f a)
      omega
/-- last things last -/
theorem best_last {p : Nat → Bool} {f : Int} {es xs : Nat → Int} (hmono : ∀ i, i < l.length → ∀ a b, f ≤ a → a ≤ b → endF r bad l a i ≤ endF r bad l b i) (hle : ∀ o, (∀ i ∈ o, i < l.length) → f ≤ comp r bad l o f) (he : ∀ i, i < l.length → p i = true → Best r bad l (less p i) f (es i))
    (hx : ∀ i, i < l.length → p i = true → xs i = endF r bad l (es i) i) {x : Int} (h1 : ∃ i, i < l.length ∧ p i = true ∧ xs i = x) (h2 : ∀ i, i < l.length → p i = true → x ≤ xs i) : Best r bad l p f x := by
  refine ⟨?_, fun o ho => ?_⟩
  · obtain ⟨i, q1, q2, q3⟩ := h1
    obtain ⟨o, q4, q5⟩ := (he i q1 q2).1
    refine ⟨o ++ [i], ord_snoc.2 ⟨⟨q1, q2⟩, q4⟩, ?_⟩
    unfold comp at q5 ⊢
    rw [List.foldl_append, q5, ← q3, hx i q1 q2]; rfl
  · rcases List.eq_nil_or_concat o with rfl | ⟨o', a, rfl⟩
    · obtain ⟨i, q1, q2, _⟩ := h1
      have := (ho.2 i).2 ⟨q1, q2⟩
      cases this
    · rw [List.concat_eq_append] at ho ⊢
      obtain ⟨⟨q1, q2⟩, q3⟩ := ord_snoc.1 ho
      have k1 := (he a q1 q2).2 o' q3
      have k2 := h2 a q1 q2
      rw [hx a q1 q2] at k2
      obtain ⟨⟨o2, k5, k4⟩, _⟩ := he a q1 q2
      have k3 := hmono a q1 (es a) (comp r bad l o' f) (by rw [← k4]; exact hle o2 fun i hi => ((k5.2 i).1 hi).1) k1
      have e : comp r bad l (o' ++ [a]) f = endF r bad l (comp r bad l o' f) a := by unfold comp; rw [List.foldl_append]; rfl
      rw [e]; omega

variable (hv : CutsOk r bad l)
include hv
theorem endF_bound {f : Int} (hf : 0 ≤ f) {i : Nat} (hi : i < l.length) : f + 1 ≤ endF r bad l f i ∧ endF r bad l f i ≤ max f 100001 + 300 := by
  have hc := hv.cc _ (cutAt_mem hi)
  have := start_spec hv.rr hv.bb hc.2 hf
  have := this.1.le
  unfold endF; omega
theorem endF_mono {i : Nat} (hi : i < l.length) {a b : Int} (ha : 0 ≤ a) (h : a ≤ b) : endF r bad l a i ≤ endF r bad l b i := by
  have hc := hv.cc _ (cutAt_mem hi)
  have := start_mono hv.rr hv.bb hc.2 ha h
  unfold endF; omega
theorem comp_bound {p : Nat → Bool} : ∀ {o : List Nat} {f : Int}, 0 ≤ f → (∀ i ∈ o, i < l.length) → f ≤ comp r bad l o f ∧ comp r bad l o f ≤ max f 100001 + 300 * o.length
  | [], f, hf, _ => by simp [comp]; omega
  | a :: o, f, hf, h => by
    have h1 := endF_bound hv hf (h a (by simp))
    have := comp_bound (p := p) (o := o) (f := endF r bad l f a) (by omega) fun i hi => h i (List.mem_cons_of_mem _ hi)
    have e : comp r bad l (a :: o) f = comp r bad l o (endF r bad l f a) := rfl
    rw [e]
    simp only [List.length_cons]
    omega
theorem ord_len {p : Nat → Bool} {n : Nat} {o : List Nat} (h : IsOrd n p o) : o.length ≤ n := by
  have : o.length ≤ (List.range n).length := h.1.length_le_of_subset fun i hi => List.mem_range.2 ((h.2 i).1 hi).1
  simpa using this
theorem best_bound {p : Nat → Bool} {f x : Int} (hf : 0 ≤ f) (h : Best r bad l p f x) : f ≤ x ∧ x ≤ max f 100001 + 2400 := by
  obtain ⟨⟨o, h1, h2⟩, _⟩ := h
  have := comp_bound (p := p) hv hf fun i hi => ((h1.2 i).1 hi).1
  have := ord_len hv h1
  have := hv.ll
  omega
theorem best_exists : ∀ (k : Nat) (p : Nat → Bool) (f : Int), ((List.range l.length).filter p).length = k → ∃ x, Best r bad l p f x := by
  intro k
  induction k with
  | zero =>
    intro p f hk
    refine ⟨f, (best_none fun i hi => ?_).2 rfl⟩
    rw [List.length_eq_zero_iff, List.filter_eq_nil_iff] at hk
    simpa using hk i (List.mem_range.2 hi)
  | succ k ih =>
    intro p f hk
    have hlen : ∀ i, i < l.length → p i = true → ((List.range l.length).filter (less p i)).length = k := by
      intro i hi hp
      have e : (List.range l.length).filter (less p i) = ((List.range l.length).filter p).erase i := by
        rw [List.Nodup.erase_eq_filter (List.nodup_range.filter _), List.filter_filter]
        congr 1
        funext j
        unfold less
        by_cases e : j = i
        · subst e; simp
        · simp [e]
      rw [e, List.length_erase_of_mem (List.mem_filter.2 ⟨List.mem_range.2 hi, hp⟩), hk]; rfl
    have hx : ∀ i, ∃ x, (i < l.length → p i = true → Best r bad l (less p i) (endF r bad l f i) x) := by
      intro i
      by_cases h : i < l.length ∧ p i = true
      · obtain ⟨x, hx⟩ := ih (less p i) (endF r bad l f i) (hlen i h.1 h.2)
        exact ⟨x, fun _ _ => hx⟩
      · exact ⟨0, fun h1 h2 => absurd ⟨h1, h2⟩ h⟩
    let xs := fun i => Classical.choose (hx i)
    have hxs := fun i => Classical.choose_spec (hx i)
    have hne : ∃ i, i < l.length ∧ p i = true := by
      cases hc : (List.range l.length).filter p with
      | nil => rw [hc] at hk; simp at hk
      | cons a t =>
        have : a ∈ (List.range l.length).filter p := by rw [hc]; simp
        rw [List.mem_filter, List.mem_range] at this
        exact ⟨a, this⟩
    have key : ∀ N, (∃ i, i < N ∧ i < l.length ∧ p i = true) → ∃ i, i < l.length ∧ p i = true ∧ ∀ j, j < N → j < l.length → p j = true → xs i ≤ xs j := by
      intro N
      induction N with
      | zero => rintro ⟨i, h, _⟩; omega
      | succ N ihN =>
        intro hex
        by_cases hN : ∃ i, i < N ∧ i < l.length ∧ p i = true
        · obtain ⟨i, h1, h2, h3⟩ := ihN hN
          by_cases hc : N < l.length ∧ p N = true ∧ xs N < xs i
          · refine ⟨N, hc.1, hc.2.1, fun j q1 q2 q3 => ?_⟩
            by_cases e : j = N
            · subst e; exact Int.le_refl _
            · have := h3 j (by omega) q2 q3; omega
          · refine ⟨i, h1, h2, fun j q1 q2 q3 => ?_⟩
            by_cases e : j = N
            · subst e
              apply Classical.byContradiction
              intro q4; exact hc ⟨q2, q3, by omega⟩
            · exact h3 j (by omega) q2 q3
        · obtain ⟨i, h1, h2, h3⟩ := hex
          refine ⟨i, h2, h3, fun j q1 q2 q3 => ?_⟩
          by_cases e : j = i
          · subst e; exact Int.le_refl _
          · exact absurd ⟨j, by
              have : i = N := by
                apply Classical.byContradiction
                intro e2; exact hN ⟨i, by omega, h2, h3⟩
              omega, q2, q3⟩ hN
    obtain ⟨i0, k1, k2⟩ := hne
    obtain ⟨i, h1, h2, h3⟩ := key l.length ⟨i0, k1, k1, k2⟩
    exact ⟨xs i, best_first (xs := xs) (fun j q1 q2 => hxs j q1 q2) ⟨i, h1, h2, rfl⟩ fun j q1 q2 => h3 j q1 q1 q2⟩
end
end Go.Abs

