/-
  Chapter 7: lists of marks that are tried one by one. Plain, and the contracts of the reference's Match, Try, Marks.
-/
import Derived.Test.YtfokmdhmaabegaaS14
set_option linter.all false
namespace Go.Abs
set_option maxRecDepth 10000
set_option maxHeartbeats 1000000

@[go_sem] theorem take_all {α : Type} {k : Nat} {l : List α} (h : l.length ≤ k) : l.take k = l := List.take_of_length_le h

def segB (m : List Span) (tol : Int) (p q : Nat) : Bool := decide ((pre (seg m p q) (q - p)).Has0 ∧ worstL (strL (seg m p q)) ≤ tol)
def endB (m : List Span) (tol : Int) (p : Nat) : Bool := decide (worstL (sumsL (m.drop p)) ≤ tol)

theorem worst_le {tol : Int} (h0 : 0 ≤ tol) : ∀ {l : List Span}, worstL l ≤ tol ↔ ∀ s ∈ l, farL s ≤ tol := by
  have key : ∀ (l : List Span) (n : Int), l.foldl (fun n s => max n (farL s)) n ≤ tol ↔ n ≤ tol ∧ ∀ s ∈ l, farL s ≤ tol := by
    intro l
    induction l with
    | nil => simp
    | cons a l ih =>
      intro n
      rw [List.foldl_cons, ih]
      simp only [List.mem_cons, forall_eq_or_imp]
      constructor
      · rintro ⟨h1, h2⟩; exact ⟨by omega, by omega, h2⟩
      · rintro ⟨h1, h2, h3⟩; exact ⟨by omega, h3⟩
  intro l
  unfold worstL
  rw [key]
  exact ⟨fun h => h.2, fun h => ⟨h0, h⟩⟩

/-- marks behind an edge: do both lengths surely match? -/
def matchGo (m : List Span) (tol : Int) (f : Nat) : List Int → Bool
  | [] => endB m tol f
  | t :: ts => segB m tol f t.toNat && matchGo m tol t.toNat ts

theorem match_go {m : List Span} {tol : Int} (h0 : 0 ≤ tol) : ∀ {ts : List Int} {f : Nat}, f ≤ m.length → Up m.length f ts → matchGo m tol f ts = (match aheadGo m f ts with | some l => decide (worstL l ≤ tol) | none => false)
  | [], f, _, _ => rfl
  | t :: ts, f, hf, hu => by
    obtain ⟨u1, u2, u3⟩ := hu
    have hq : f ≤ t.toNat ∧ t.toNat ≤ m.length := by omega
    have ih := match_go h0 (ts := ts) (f := t.toNat) hq.2 (by rw [Int.toNat_of_nonneg (by omega)]; exact u3)
    simp only [matchGo, aheadGo, ih]
    by_cases hz : (pre (seg m f t.toNat) (t.toNat - f)).Has0
    · rw [if_pos hz]
      have hlen : (seg m f t.toNat).length = t.toNat - f := seg_length hq.1 hq.2
      have hsp : strL (seg m f t.toNat) = (strL (seg m f t.toNat)).take (t.toNat - f) ++ [⟨0, 0⟩] := by
        have e : strL (seg m f t.toNat) = (List.range (t.toNat - f)).map (strE (seg m f t.toNat)) ++ [strE (seg m f t.toNat) (t.toNat - f)] := by
          unfold strL; rw [hlen, List.range_succ, List.map_append]; rfl
        have e2 : strE (seg m f t.toNat) (t.toNat - f) = ⟨0, 0⟩ := by
          obtain ⟨z1, z2⟩ := hz
          unfold strE; rw [hlen]
          congr 1 <;> omega
        rw [e2] at e
        rw [e]; simp
      cases hgo : aheadGo m t.toNat ts with
      | none => simp
      | some l =>
        simp only [Option.map_some]
        unfold segB
        rw [← Bool.decide_and]
        apply decide_eq_decide.2
        rw [worst_le h0, worst_le h0, worst_le h0]
        constructor
        · rintro ⟨⟨_, h1⟩, h2⟩ s hs
          rcases List.mem_append.1 hs with hs | hs
          · exact h1 s (by rw [hsp]; exact List.mem_append_left _ hs)
          · exact h2 s hs
        · intro h
          refine ⟨⟨hz, fun s hs => ?_⟩, fun s hs => h s (List.mem_append_right _ hs)⟩
          rw [hsp] at hs
          rcases List.mem_append.1 hs with hs | hs
          · exact h s (List.mem_append_left _ hs)
          · rw [List.mem_singleton.1 hs]; unfold farL; dsimp only; omega
    · rw [if_neg hz]
      have : segB m tol f t.toNat = false := by unfold segB; exact decide_eq_false fun h => hz h.1
      rw [this]; rfl

/-- so many marks more behind an edge: the smallest list of those with which both lengths surely match -/
def extL (m : List Span) (tol : Int) (n : Nat) : Nat → Nat → Option (List Int)
  | 0, f => if endB m tol f then some [] else none
  | k + 1, f => (List.range' (f + 1) (n - f)).findSome? fun t => if segB m tol f t then (extL m tol n k t).map (fun l => (t : Int) :: l) else none

section
variable {m : List Span} {tol : Int} {n : Nat}

theorem ext_none {k f : Nat} : extL m tol n (k + 1) f = none ↔ ∀ t, f < t → t ≤ n → segB m tol f t = true → extL m tol n k t = none := by
  simp only [extL, List.findSome?_eq_none_iff, List.mem_range'_1]
  constructor
  · intro h t h1 h2 h3
    have := h t ⟨by omega, by omega⟩
    rw [if_pos h3] at this
    simpa using this
  · rintro h t ⟨h1, h2⟩
    by_cases c : segB m tol f t = true
    · rw [if_pos c, h t (by omega) (by omega) c]; rfl
    · rw [if_neg c]
theorem ext_some {k f t : Nat} {l : List Int} (h1 : f < t) (h2 : t ≤ n) (h3 : segB m tol f t = true) (h4 : extL m tol n k t = some l) (h5 : ∀ t', f < t' → t' < t → segB m tol f t' = true → extL m tol n k t' = none) :
    extL m tol n (k + 1) f = some ((t : Int) :: l) := by
  simp only [extL]
  rw [show List.range' (f + 1) (n - f) = List.range' (f + 1) (t - f - 1) ++ t :: List.range' (t + 1) (n - t) by
    rw [show n - f = (t - f - 1) + (n - t + 1) by omega, ← List.range'_append_1, List.range'_succ]
    congr 2 <;> congr 1 <;> omega]
  rw [List.findSome?_append]
  have : (List.range' (f + 1) (t - f - 1)).findSome? (fun t => if segB m tol f t then (extL m tol n k t).map (fun l => (t : Int) :: l) else none) = none := by
    rw [List.findSome?_eq_none_iff]
    intro t' ht'
    rw [List.mem_range'_1] at ht'
    by_cases c : segB m tol f t' = true
    · rw [if_pos c, h5 t' (by omega) (by omega) c]; rfl
    · rw [if_neg c]
  rw [this]
  simp [h3, h4]
theorem ext_inv {k f : Nat} {l : List Int} (h : extL m tol n (k + 1) f = some l) : ∃ (t : Nat) (r : List Int), l = (t : Int) :: r ∧ f < t ∧ t ≤ n ∧ segB m tol f t = true ∧ extL m tol n k t = some r ∧ ∀ t', f < t' → t' < t → segB m tol f t' = true → extL m tol n k t' = none := by
  by_cases hex : ∃ t, f < t ∧ t ≤ n ∧ segB m tol f t = true ∧ extL m tol n k t ≠ none
  · have key : ∀ N t, t ≤ N → (f < t ∧ t ≤ n ∧ segB m tol f t = true ∧ extL m tol n k t ≠ none) → ∃ t, (f < t ∧ t ≤ n ∧ segB m tol f t = true ∧ extL m tol n k t ≠ none) ∧ ∀ t', f < t' → t' < t → segB m tol f t' = true → extL m tol n k t' = none := by
      intro N
      induction N with
      | zero => intro t h1 h2; omega
      | succ N ih =>
        intro t h1 h2
        by_cases c : ∃ t', t' ≤ N ∧ (f < t' ∧ t' ≤ n ∧ segB m tol f t' = true ∧ extL m tol n k t' ≠ none)
        · obtain ⟨t', h3, h4⟩ := c; exact ih t' h3 h4
        · refine ⟨t, h2, fun t' h3 h4 h5 => ?_⟩
          apply Classical.byContradiction
          intro h6
          exact c ⟨t', by omega, h3, by omega, h5, h6⟩
    obtain ⟨t0, h0⟩ := hex
    obtain ⟨t, ⟨h1, h2, h3, h4⟩, h5⟩ := key t0 t0 (Nat.le_refl _) h0
    cases hr : extL m tol n k t with
    | none => exact absurd hr h4
    | some r =>
      have := ext_some h1 h2 h3 hr h5
      rw [h] at this
      exact ⟨t, r, Option.some.inj this, h1, h2, h3, hr, h5⟩
  · have : extL m tol n (k + 1) f = none := ext_none.2 fun t h1 h2 h3 => by
      apply Classical.byContradiction
      intro h4; exact hex ⟨t, h1, h2, h3, h4⟩
    rw [this] at h; cases h
theorem ext_bound : ∀ {k f : Nat} {l : List Int}, f ≤ n → extL m tol n k f = some l → f + k ≤ n ∧ l.length = k
  | 0, f, l, hf, h => by
    simp only [extL] at h
    split at h
    · cases h; exact ⟨hf, rfl⟩
    · cases h
  | k + 1, f, l, hf, h => by
    obtain ⟨t, r, rfl, h1, h2, _, h4, _⟩ := ext_inv h
    have := ext_bound (by omega) h4
    simp; omega

/-- all marks of a list are met -/
def chainB (m : List Span) (tol : Int) (f : Nat) : List Int → Bool
  | [] => true
  | t :: ts => segB m tol f t.toNat && chainB m tol t.toNat ts
def lastOf (f : Nat) : List Int → Nat
  | [] => f
  | t :: ts => lastOf t.toNat ts
theorem match_app : ∀ {ps : List Int} {f : Nat} {ts : List Int}, matchGo m tol f (ps ++ ts) = (chainB m tol f ps && matchGo m tol (lastOf f ps) ts)
  | [], _, _ => by simp [chainB, lastOf]
  | p :: ps, f, ts => by simp only [List.cons_append, matchGo, chainB, lastOf, match_app, Bool.and_assoc]
theorem chain_snoc : ∀ {ps : List Int} {f : Nat} {t : Int}, chainB m tol f (ps ++ [t]) = (chainB m tol f ps && segB m tol (lastOf f ps) t.toNat)
  | [], _, _ => by simp [chainB, lastOf]
  | p :: ps, f, t => by simp only [List.cons_append, chainB, lastOf, chain_snoc, Bool.and_assoc]
theorem last_snoc : ∀ {ps : List Int} {f : Nat} {t : Int}, lastOf f (ps ++ [t]) = t.toNat
  | [], _, _ => rfl
  | p :: ps, f, t => by simp only [List.cons_append, lastOf]; exact last_snoc

/-- what Try answers -/
def tryO (m : List Span) (tol : Int) (n k : Nat) (ps : List Int) : Option (List Int) := if chainB m tol 0 ps then (extL m tol n k (lastOf 0 ps)).map (ps ++ ·) else none

theorem try_zero {ps : List Int} : tryO m tol n 0 ps = if matchGo m tol 0 ps then some ps else none := by
  have h := match_app (m := m) (tol := tol) (ps := ps) (f := 0) (ts := [])
  rw [List.append_nil] at h
  rw [h]
  unfold tryO
  cases chainB m tol 0 ps
  · rfl
  · simp only [extL, matchGo, if_true, Bool.true_and]
    cases endB m tol (lastOf 0 ps) <;> simp
theorem try_none {k : Nat} {ps : List Int} : tryO m tol n (k + 1) ps = none ↔ ∀ t : Nat, lastOf 0 ps < t → t ≤ n → tryO m tol n k (ps ++ [(t : Int)]) = none := by
  unfold tryO
  cases hc : chainB m tol 0 ps
  · simp [chain_snoc, hc]
  · simp only [if_true, Option.map_eq_none_iff, chain_snoc, hc, Bool.true_and, last_snoc, Int.toNat_natCast, ext_none]
    constructor
    · intro h t h1 h2
      by_cases c : segB m tol (lastOf 0 ps) t = true
      · rw [if_pos c, h t h1 h2 c]; rfl
      · rw [if_neg c]
    · intro h t h1 h2 h3
      have := h t h1 h2
      rw [if_pos h3] at this
      simpa using this
theorem try_some {k : Nat} {ps l : List Int} {t : Nat} (h1 : lastOf 0 ps < t) (h2 : t ≤ n) (h3 : tryO m tol n k (ps ++ [(t : Int)]) = some l) (h4 : ∀ t', lastOf 0 ps < t' → t' < t → tryO m tol n k (ps ++ [(t' : Int)]) = none) : tryO m tol n (k + 1) ps = some l := by
  unfold tryO at h3 h4 ⊢
  simp only [chain_snoc, last_snoc, Int.toNat_natCast] at h3 h4
  cases hc : chainB m tol 0 ps
  · simp [hc] at h3
  · simp only [hc, Bool.true_and] at h3 h4
    by_cases c : segB m tol (lastOf 0 ps) t = true
    · rw [if_pos c] at h3
      cases he : extL m tol n k t with
      | none => rw [he] at h3; cases h3
      | some r =>
        rw [he] at h3
        simp only [Option.map_some, Option.some.injEq] at h3
        rw [if_pos rfl, ext_some h1 h2 c he fun t' h5 h6 h7 => by
          have := h4 t' h5 h6
          rw [if_pos h7] at this
          simpa using this]
        simp [← h3]
    · rw [if_neg c] at h3; cases h3
end
end Go.Abs
