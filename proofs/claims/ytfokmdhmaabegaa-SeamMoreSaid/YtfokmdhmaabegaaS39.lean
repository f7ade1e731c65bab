/-
  Chapter 7: marks that match: what Marks, Part and Least answer for lengths of bytes. Plain, and Part's answers.
-/
import Derived.Test.YtfokmdhmaabegaaS38
import Derived.Test.YtfokmdhmaabegaaS18
set_option linter.all false
namespace Go.Abs
set_option maxRecDepth 10000
set_option maxHeartbeats 1000000

section
variable {m : List Span} {tol : Int} {n : Nat}
theorem ext_match : ∀ {k f : Nat} {l : List Int}, f ≤ n → extL m tol n k f = some l → matchGo m tol f l = true ∧ Up n f l
  | 0, f, l, hf, h => by
    simp only [extL] at h
    split at h
    · rename_i c
      cases h; exact ⟨c, trivial⟩
    · cases h
  | k + 1, f, l, hf, h => by
    obtain ⟨t, r, rfl, h1, h2, h3, h4, _⟩ := ext_inv h
    obtain ⟨k1, k2⟩ := ext_match h2 h4
    refine ⟨?_, by omega, by omega, k2⟩
    simp only [matchGo, Int.toNat_natCast, h3, k1, Bool.and_self]
theorem match_ext : ∀ {ts : List Int} {f : Nat}, f ≤ n → Up n f ts → matchGo m tol f ts = true → extL m tol n ts.length f ≠ none
  | [], f, _, _, h => by
    have h : endB m tol f = true := h
    simp [extL, h]
  | t :: ts, f, hf, hu, h => by
    obtain ⟨u1, u2, u3⟩ := hu
    simp only [matchGo, Bool.and_eq_true] at h
    have hq : f < t.toNat ∧ t.toNat ≤ n := by omega
    have ih := match_ext (ts := ts) (f := t.toNat) hq.2 (by rw [Int.toNat_of_nonneg (by omega)]; exact u3) h.2
    intro hn
    exact ih (ext_none.1 hn t.toNat hq.1 hq.2 h.1)
theorem least_ext {k : Nat} (h : extL m tol n k 0 ≠ none) : ∃ (q : Nat) (l : List Int), q ≤ k ∧ extL m tol n q 0 = some l ∧ (∀ q' < q, extL m tol n q' 0 = none) ∧ marksO m tol n = some l ∧ l.length = q ∧ q ≤ n := by
  have key : ∀ N k, k ≤ N → extL m tol n k 0 ≠ none → ∃ q, q ≤ k ∧ extL m tol n q 0 ≠ none ∧ ∀ q' < q, extL m tol n q' 0 = none := by
    intro N
    induction N with
    | zero => intro k h1 h2; exact ⟨k, Nat.le_refl _, h2, fun q' h => by omega⟩
    | succ N ih =>
      intro k h1 h2
      by_cases c : ∃ k', k' < k ∧ extL m tol n k' 0 ≠ none
      · obtain ⟨k', h3, h4⟩ := c
        obtain ⟨q, h5, h6⟩ := ih k' (by omega) h4
        exact ⟨q, by omega, h6⟩
      · exact ⟨k, Nat.le_refl _, h2, fun q' h3 => Classical.byContradiction fun h4 => c ⟨q', h3, h4⟩⟩
  obtain ⟨q, h1, h2, h3⟩ := key k k (Nat.le_refl _) h
  cases hq : extL m tol n q 0 with
  | none => exact absurd hq h2
  | some l =>
    have hb := ext_bound (Nat.zero_le _) hq
    exact ⟨q, l, h1, hq, h3, marks_some (by omega) hq h3, hb.2, by omega⟩
theorem marks_inv {l : List Int} (h : marksO m tol n = some l) : matchGo m tol 0 l = true ∧ Up n 0 l ∧ l.length ≤ n := by
  have h' := h
  unfold marksO at h'
  obtain ⟨k, _, he⟩ := List.exists_of_findSome?_eq_some h'
  obtain ⟨q, l', _, h2, _, h4, h5, h6⟩ := least_ext (k := k) (by rw [he]; simp)
  rw [h] at h4
  cases h4
  obtain ⟨k1, k2⟩ := ext_match (Nat.zero_le _) h2
  exact ⟨k1, k2, by omega⟩
theorem marks_least {ts : List Int} (hu : Up n 0 ts) (h : matchGo m tol 0 ts = true) : ∃ l, marksO m tol n = some l ∧ l.length ≤ ts.length := by
  obtain ⟨q, l, h1, _, _, h4, h5, _⟩ := least_ext (match_ext (Nat.zero_le _) hu h)
  exact ⟨l, h4, by omega⟩
theorem match_mono {tol' : Int} (h0 : tol ≤ tol') : ∀ {ts : List Int} {f : Nat}, matchGo m tol f ts = true → matchGo m tol' f ts = true
  | [], f, h => by
    simp only [matchGo, endB, decide_eq_true_eq] at h ⊢; omega
  | t :: ts, f, h => by
    simp only [matchGo, segB, Bool.and_eq_true, decide_eq_true_eq] at h ⊢
    exact ⟨⟨h.1.1, by omega⟩, match_mono h0 h.2⟩
theorem marks_more {tol' : Int} (h0 : tol ≤ tol') {l : List Int} (h : marksO m tol n = some l) : ∃ l', marksO m tol' n = some l' ∧ l'.length ≤ l.length := by
  obtain ⟨h1, h2, _⟩ := marks_inv h
  exact marks_least h2 (match_mono h0 h1)
end

section
variable {a b : List Part} (ha : Ones a) (hb : Ones b) (hab : a.length = b.length) {ts : List Int}
include ha hb hab
theorem ones_up (h1 : ∀ t ∈ ts, 1 ≤ t ∧ t ≤ (a.length : Int)) (h2 : incL ts = true) : Up (widthsL a).length 0 ts := by
  rw [ones_wlen ha]
  exact up_of (fun t ht => by have := h1 t ht; omega) h2
theorem ones_match {tol : Int} (h0 : 0 ≤ tol) (hu : Up (widthsL a).length 0 ts) : matchGo (moreL (widthsL a) (widthsL b)) tol 0 ts = true ↔ (openE a b ts = 0 ∧ worstL (openL a b ts) ≤ tol) := by
  have p0 := ones_pair ha hb hab
  have hq := pairOk (ts := ts) p0
  have hg := match_go (m := moreL (widthsL a) (widthsL b)) h0 (ts := ts) (f := 0) (Nat.zero_le _) (by rw [hq.lm]; exact hu)
  have hal := up_all hu
  have hall : (ts.all fun t => decide (1 ≤ t ∧ t ≤ ((pairL a b).more.length : Int))) = true := by
    rw [List.all_eq_true]
    intro t ht
    have := hal t ht
    rw [hq.pa]; simp only [decide_eq_true_eq, hq.lm]; omega
  have hinc := up_inc hu
  rw [hg]
  have hmo : (pairL a b).more = moreL (widthsL a) (widthsL b) := by rw [hq.pa]
  have e : openE a b ts = if (aheadGo (moreL (widthsL a) (widthsL b)) 0 ts).isSome = false then 9 else 0 := by
    unfold openE
    rw [if_neg (by rw [p0]; simp), if_neg (by rw [hall]; simp), if_neg (by rw [hinc]; simp), hmo]
  cases hgo : aheadGo (moreL (widthsL a) (widthsL b)) 0 ts with
  | none => rw [hgo] at e; simp [e]
  | some l =>
    rw [hgo] at e
    simp only [Option.isSome_some, Bool.true_eq_false, if_false] at e
    have el : openL a b ts = l := by unfold openL; rw [if_pos e, hmo, hgo]; rfl
    rw [el]
    simp [e]
end

theorem worst_at {l : List Span} {tol : Int} (h0 : 0 ≤ tol) : worstL l ≤ tol ↔ ∀ j (h : j < l.length), ¬ tol < farL l[j] := by
  rw [worst_le h0]
  constructor
  · intro h j hj; have := h _ (List.getElem_mem hj); omega
  · intro h s hs
    obtain ⟨j, hj, rfl⟩ := List.getElem_of_mem hs
    have := h j hj; omega
theorem first_far {l : List Span} {tol : Int} (h0 : 0 ≤ tol) (h : ¬ worstL l ≤ tol) : ∃ i, ∃ (hi : i < l.length), tol < farL l[i] ∧ ∀ j (h : j < l.length), j < i → ¬ tol < farL l[j] := by
  rw [worst_at h0] at h
  have key : ∀ N i (hi : i < l.length), i ≤ N → tol < farL l[i] → ∃ i, ∃ (hi : i < l.length), tol < farL l[i] ∧ ∀ j (h : j < l.length), j < i → ¬ tol < farL l[j] := by
    intro N
    induction N with
    | zero => intro i hi h1 h2; exact ⟨i, hi, h2, fun j _ h => by omega⟩
    | succ N ih =>
      intro i hi h1 h2
      by_cases c : ∃ j, ∃ (hj : j < l.length), j < i ∧ tol < farL l[j]
      · obtain ⟨j, hj, h3, h4⟩ := c; exact ih j hj (by omega) h4
      · exact ⟨i, hi, h2, fun j hj h3 h4 => c ⟨j, hj, h3, h4⟩⟩
  have : ∃ j, ∃ (hj : j < l.length), tol < farL l[j] := by
    apply Classical.byContradiction
    intro c
    exact h fun j hj h4 => c ⟨j, hj, h4⟩
  obtain ⟨j, hj, h4⟩ := this
  exact key j j hj (Nat.le_refl _) h4

theorem part_none {a b : List Part} {ts : List Int} {tol : Int} (hts : ts.length ≤ 1000) (o : openE a b ts = 0) (h0 : 0 ≤ tol ∧ tol ≤ 2000000) (hw : worstL (openL a b ts) ≤ tol) :
    lim F 27 [.list 3 (a.map Part.av), .list 3 (b.map Part.av), .list 1 (ts.map fun n => iv n), iv tol] = some (.tuple [iv 0, iv 0, iv 7], []) :=
  Part_ok a b ts tol hts 0 0 7 (fun h => absurd o h) (fun _ h => absurd h0 h) (fun _ _ i hi h => absurd h ((worst_at h0.1).1 hw i hi)) fun _ _ _ => ⟨rfl, rfl, rfl⟩
theorem part_err {a b : List Part} {ts : List Int} {tol : Int} (hts : ts.length ≤ 1000) (o : openE a b ts ≠ 0) :
    lim F 27 [.list 3 (a.map Part.av), .list 3 (b.map Part.av), .list 1 (ts.map fun n => iv n), iv tol] = some (.tuple [iv 0, iv 0, iv (openE a b ts)], []) :=
  Part_ok a b ts tol hts 0 0 _ (fun _ => ⟨rfl, rfl, rfl⟩) (fun h => absurd h o) (fun h => absurd h o) fun h => absurd h o
theorem part_some {a b : List Part} {ts : List Int} {tol : Int} (hts : ts.length ≤ 1000) (o : openE a b ts = 0) (h0 : 0 ≤ tol ∧ tol ≤ 2000000) (hw : ¬ worstL (openL a b ts) ≤ tol) :
    ∃ i, i < (openL a b ts).length ∧ tol < farL (at' (openL a b ts) i) ∧ farL (at' (openL a b ts) i) ≤ worstL (openL a b ts) ∧ lim F 27 [.list 3 (a.map Part.av), .list 3 (b.map Part.av), .list 1 (ts.map fun n => iv n), iv tol] = some (.tuple [iv i, iv (farL (at' (openL a b ts) i)), iv 0], []) := by
  obtain ⟨i, hi, h1, h2⟩ := first_far h0.1 hw
  rw [← at'_get hi] at h1
  have hwp : 0 ≤ worstL (openL a b ts) := by
    apply Classical.byContradiction; intro c; exact hw (by omega)
  have h3 : farL (at' (openL a b ts) i) ≤ worstL (openL a b ts) := by
    rw [at'_get hi]; exact (worst_le hwp).1 (Int.le_refl _) _ (List.getElem_mem hi)
  refine ⟨i, hi, h1, h3, Part_ok a b ts tol hts _ _ 0 (fun h => absurd o h) (fun _ h => absurd h0 h) (fun _ _ k hk hk1 hk2 => ?_) fun _ _ h => ?_⟩
  · have : k = i := by
      rcases Nat.lt_trichotomy k i with c | c | c
      · exact absurd hk1 (h2 k hk c)
      · exact c
      · exact absurd (by rw [← at'_get hi]; exact h1) (hk2 i hi c)
    subst this
    rw [at'_get hi]; exact ⟨rfl, rfl, rfl⟩
  · exact absurd ((worst_at h0.1).2 h) hw
end Go.Abs
