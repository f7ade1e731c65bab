/-
 Chapter 12, plain: the fewest copies, by lists and by sets. No condition beyond those that each theorem names.
-/
import Derived.Test.YtodpkfillohplaaDoorX13
set_option linter.all false
namespace Go.Abs
set_option maxRecDepth 10000
set_option maxHeartbeats 4000000

/-- the numbers of a set -/
def setL (L b : Nat) : List Nat := (List.range L).filter fun i => b.testBit i
/-- lists of one length: the first is smaller -/
def lexL : List Nat → List Nat → Bool
 | a :: l, b :: m => if a = b then lexL l m else decide (a < b)
 | _, _ => false
def lessL (a b : List Nat) : Bool := if a.length = b.length then lexL a b else decide (a.length < b.length)
/-- ascending -/
def Asc (l : List Nat) : Prop := l.Pairwise (· < ·)
theorem asc_eq {a b : List Nat} (ha : Asc a) (hb : Asc b) (h : ∀ x, x ∈ a ↔ x ∈ b) : a = b := by
 induction a generalizing b with
 | nil =>
  cases b with
  | nil => rfl
  | cons y b => exact absurd ((h y).2 (List.mem_cons_self ..)) (by simp)
 | cons x a ih =>
  cases b with
  | nil => exact absurd ((h x).1 (List.mem_cons_self ..)) (by simp)
  | cons y b =>
   obtain ⟨ha1, ha2⟩ := List.pairwise_cons.1 ha
   obtain ⟨hb1, hb2⟩ := List.pairwise_cons.1 hb
   have hxy : x = y := by
    rcases List.mem_cons.1 ((h x).1 (List.mem_cons_self ..)) with e | e
    ·exact e
    ·rcases List.mem_cons.1 ((h y).2 (List.mem_cons_self ..)) with e' | e'
     ·exact e'.symm
     ·have := ha1 y e'; have := hb1 x e; omega
   subst hxy
   rw [ih ha2 hb2 fun z => ?_]
   constructor
   ·intro hz
    rcases List.mem_cons.1 ((h z).1 (List.mem_cons_of_mem _ hz)) with e | e
    ·subst e; exact absurd (ha1 z hz) (by omega)
    ·exact e
   ·intro hz
    rcases List.mem_cons.1 ((h z).2 (List.mem_cons_of_mem _ hz)) with e | e
    ·subst e; exact absurd (hb1 z hz) (by omega)
    ·exact e
theorem asc_range (n : Nat) : Asc (List.range n) := List.pairwise_lt_range
theorem setL_asc (L b : Nat) : Asc (setL L b) := (asc_range L).filter _
theorem setL_lt {L b x : Nat} (h : x ∈ setL L b) : x < L := List.mem_range.1 (List.mem_filter.1 h).1
theorem bits_of (L : Nat) : ∀ x : List Nat, (∀ k ∈ x, k < L) → ∃ b, b < 2 ^ L ∧ ∀ i, b.testBit i = decide (i ∈ x)
 | [], _ => ⟨0, Nat.two_pow_pos L, fun i => by simp⟩
 | k :: x, h => by
  obtain ⟨b, hb, hi⟩ := bits_of L x fun j hj => h j (List.mem_cons_of_mem _ hj)
  refine ⟨b ||| 2 ^ k, Nat.or_lt_two_pow hb (Nat.pow_lt_pow_right (by omega) (h k (List.mem_cons_self ..))), fun i => ?_⟩
  rw [Nat.testBit_or, hi, Nat.testBit_two_pow]
  by_cases e : i = k
  ·subst e; simp
  ·simp [e, Ne.symm e]
theorem setL_of {L : Nat} {x : List Nat} (hx : Asc x) (hl : ∀ k ∈ x, k < L) : ∃ b, b < 2 ^ L ∧ setL L b = x := by
 obtain ⟨b, hb, hi⟩ := bits_of L x hl
 refine ⟨b, hb, asc_eq (setL_asc L b) hx fun i => ?_⟩
 unfold setL
 rw [List.mem_filter, List.mem_range, hi]
 simp only [decide_eq_true_eq]
 exact ⟨fun h => h.2, fun h => ⟨hl i h, h⟩⟩
theorem partsL_asc (most : Nat) : ∀ (m a : Nat), ∀ x ∈ partsL most m a, Asc x
 | 0, a, x, h => by simp [partsL] at h; subst h; exact List.Pairwise.nil
 | m + 1, a, x, h => by
  simp only [partsL, List.mem_flatMap, List.mem_map, List.mem_range] at h
  obtain ⟨i, hi, y, hy, rfl⟩ := h
  refine List.pairwise_cons.2 ⟨fun k hk => ?_, partsL_asc most m _ y hy⟩
  have := partsL_lt most m _ y hy k hk
  omega
theorem partsL_mem (most : Nat) : ∀ (x : List Nat) (a : Nat), Asc x → (∀ k ∈ x, a ≤ k ∧ k < most) → x ∈ partsL most x.length a
 | [], a, _, _ => by simp [partsL]
 | k :: x, a, h, hk => by
  obtain ⟨h1, h2⟩ := List.pairwise_cons.1 h
  have hka := hk k (List.mem_cons_self ..)
  simp only [List.length_cons, partsL, List.mem_flatMap, List.mem_map, List.mem_range]
  refine ⟨k - a, by omega, x, ?_, by rw [show a + (k - a) = k by omega]⟩
  rw [show a + (k - a) + 1 = k + 1 by omega]
  exact partsL_mem most x (k + 1) h2 fun j hj => ⟨by have := h1 j hj; omega, (hk j (List.mem_cons_of_mem _ hj)).2⟩
theorem partsL_lex (most : Nat) : ∀ (m a : Nat), (partsL most m a).Pairwise fun x y => lexL x y = true
 | 0, a => by simp [partsL]
 | m + 1, a => by
  simp only [partsL]
  rw [List.pairwise_flatMap]
  refine ⟨fun i _ => ?_, ?_⟩
  ·rw [List.pairwise_map]
   exact (partsL_lex most m _).imp fun h => by simpa [lexL] using h
  ·refine (asc_range _).imp fun {i j} hij x hx y hy => ?_
   obtain ⟨x', _, rfl⟩ := List.mem_map.1 hx
   obtain ⟨y', _, rfl⟩ := List.mem_map.1 hy
   simp only [lexL]
   rw [if_neg (by omega)]
   exact decide_eq_true (by omega)

/-- the best of so many sets -/
def bestR (s : List (List Nat)) (n L : Nat) : Nat → List Nat
 | 0 => List.range L
 | k + 1 => if lessL (setL L (k + 1)) (bestR s n L k) = true ∧ isN s n (setL L (k + 1)) = true then setL L (k + 1) else bestR s n L k
theorem bestR_ok (s : List (List Nat)) (n L : Nat) (hall : isN s n (List.range L) = true) : ∀ k, Asc (bestR s n L k) ∧ (∀ x ∈ bestR s n L k, x < L) ∧ isN s n (bestR s n L k) = true
 | 0 => ⟨asc_range L, fun x hx => List.mem_range.1 hx, hall⟩
 | k + 1 => by
  unfold bestR
  split
  ·rename_i h
   exact ⟨setL_asc _ _, fun x hx => setL_lt hx, h.2⟩
  ·exact bestR_ok s n L hall k
theorem bestR_len (s : List (List Nat)) (n L : Nat) : ∀ k, (bestR s n L k).length ≤ L
 | 0 => by simp [bestR]
 | k + 1 => by
  unfold bestR
  split
  ·exact Nat.le_trans (List.length_filter_le _ _) (by simp)
  ·exact bestR_len s n L k
theorem lex_trans : ∀ a b c : List Nat, lexL a b = true → lexL b c = true → lexL a c = true
 | [], b, c, h, _ => by simp [lexL] at h
 | x :: a, [], c, h, _ => by simp [lexL] at h
 | x :: a, y :: b, [], _, h => by simp [lexL] at h
 | x :: a, y :: b, z :: c, h1, h2 => by
  simp only [lexL] at h1 h2 ⊢
  by_cases e1 : x = y
  ·subst e1
   rw [if_pos rfl] at h1
   by_cases e2 : x = z
   ·subst e2
    rw [if_pos rfl] at h2 ⊢
    exact lex_trans a b c h1 h2
   ·rw [if_neg e2] at h2 ⊢
    exact h2
  ·rw [if_neg e1] at h1
   have h1 := of_decide_eq_true h1
   by_cases e2 : y = z
   ·subst e2
    rw [if_neg e1]
    exact decide_eq_true h1
   ·rw [if_neg e2] at h2
    have h2 := of_decide_eq_true h2
    rw [if_neg (by omega)]
    exact decide_eq_true (by omega)
theorem lex_irrefl : ∀ a : List Nat, lexL a a = false
 | [] => rfl
 | x :: a => by simp only [lexL, if_true]; exact lex_irrefl a
theorem less_trans {a b c : List Nat} (h1 : lessL a b = true) (h2 : lessL b c = true) : lessL a c = true := by
 unfold lessL at *
 split at h1
 ·rename_i e1
  split at h2
  ·rename_i e2
   rw [if_pos (by omega)]
   exact lex_trans _ _ _ h1 h2
  ·have := of_decide_eq_true h2
   rw [if_neg (by omega)]
   exact decide_eq_true (by omega)
 ·have h1 := of_decide_eq_true h1
  split at h2
  ·rw [if_neg (by omega)]
   exact decide_eq_true (by omega)
  ·have := of_decide_eq_true h2
   rw [if_neg (by omega)]
   exact decide_eq_true (by omega)
theorem less_irrefl (a : List Nat) : lessL a a = false := by
 unfold lessL; rw [if_pos rfl]; exact lex_irrefl a
theorem bestR_min (s : List (List Nat)) (n L : Nat) : ∀ k j, 1 ≤ j → j ≤ k → isN s n (setL L j) = true → lessL (setL L j) (bestR s n L k) = false
 | 0, j, h1, h2, _ => by omega
 | k + 1, j, h1, h2, h3 => by
  have ih := bestR_min s n L k j h1
  unfold bestR
  split
  ·rename_i h
   by_cases e : j = k + 1
   ·subst e; exact less_irrefl _
   ·cases hc : lessL (setL L j) (setL L (k + 1)) with
    | false => rfl
    | true =>
     have := less_trans hc h.1
     rw [ih (by omega) h3] at this
     cases this
  ·rename_i h
   by_cases e : j = k + 1
   ·subst e
    cases hc : lessL (setL L (k + 1)) (bestR s n L k) with
    | false => rfl
    | true => exact absurd ⟨hc, h3⟩ h
   ·exact ih (by omega) h3
theorem setL_pos {L b : Nat} (h0 : b ≠ 0) (h : b < 2 ^ L) : 1 ≤ (setL L b).length := by
 obtain ⟨i, hi⟩ := Nat.exists_testBit_of_ne_zero h0
 have hiL : i < L := by
  rcases Nat.lt_or_ge i L with h' | h'
  ·exact h'
  ·have := Nat.testBit_lt_two_pow (Nat.lt_of_lt_of_le h (Nat.pow_le_pow_right (by omega) h'))
   rw [this] at hi; cases hi
 have : i ∈ setL L b := List.mem_filter.2 ⟨List.mem_range.2 hiL, hi⟩
 exact List.length_pos_of_mem this
theorem bestR_pos (s : List (List Nat)) (n L : Nat) (hL : 1 ≤ L) : ∀ k, k < 2 ^ L → 1 ≤ (bestR s n L k).length
 | 0, _ => by simpa [bestR] using hL
 | k + 1, h => by
  unfold bestR
  split
  ·exact setL_pos (by omega) h
  ·exact bestR_pos s n L hL k (by omega)
theorem needed_eq (s : List (List Nat)) (n L : Nat) (hL : 1 ≤ L) (hall : isN s n (List.range L) = true) (M : Nat) (i0 : Nat) (hi0 : i0 < (partsL L (M + 1) 0).length) (hyes : isN s n (partsL L (M + 1) 0)[i0] = true) (hno : ∀ i (hi : i < (partsL L (M + 1) 0).length), i < i0 → isN s n (partsL L (M + 1) 0)[i] = false) (hnom : ∀ k, k < M → ∀ x ∈ partsL L (k + 1) 0, isN s n x = false) :
  bestR s n L (2 ^ L - 1) = (partsL L (M + 1) 0)[i0] := by
 have hp := Nat.two_pow_pos L
 obtain ⟨b1, b2, b3⟩ := bestR_ok s n L hall (2 ^ L - 1)
 have b4 := bestR_pos s n L hL (2 ^ L - 1) (by omega)
 have hm0 := List.getElem_mem hi0
 have hx1 := partsL_len L (M + 1) 0 _ hm0
 obtain ⟨b, hb, hbe⟩ := setL_of (L := L) (partsL_asc L (M + 1) 0 _ hm0) fun k hk => (partsL_lt L (M + 1) 0 _ hm0 k hk).2
 have hb0 : b ≠ 0 := by
  rintro rfl
  have e : setL L 0 = [] := by simp [setL]
  rw [e] at hbe
  rw [← hbe] at hx1
  cases hx1
 have hmin := bestR_min s n L (2 ^ L - 1) b (by omega) (by omega) (by rw [hbe]; exact hyes)
 rw [hbe] at hmin
 have hin := partsL_mem L (bestR s n L (2 ^ L - 1)) 0 b1 fun k hk => ⟨Nat.zero_le _, b2 k hk⟩
 generalize bestR s n L (2 ^ L - 1) = z at *
 obtain ⟨q, hq⟩ : ∃ q, z.length = q + 1 := ⟨z.length - 1, by omega⟩
 rw [hq] at hin
 rcases Nat.lt_trichotomy q M with h | h | h
 ·rw [hnom q h z hin] at b3; cases b3
 ·subst h
  obtain ⟨j, hj, hje⟩ := List.getElem_of_mem hin
  rcases Nat.lt_trichotomy j i0 with h | h | h
  ·have := hno j hj h
   rw [hje, b3] at this; cases this
  ·subst h; exact hje.symm
  ·have hl := List.pairwise_iff_getElem.1 (partsL_lex L (q + 1) 0) i0 j hi0 hj h
   rw [hje] at hl
   unfold lessL at hmin
   rw [if_pos (by omega), hl] at hmin
   cases hmin
 ·unfold lessL at hmin
  rw [if_neg (by omega)] at hmin
  exact absurd (of_decide_eq_false hmin) (by omega)
theorem first_of {α : Type} (p : α → Bool) : ∀ l : List α, (∃ x ∈ l, p x = true) → ∃ i, ∃ h : i < l.length, p l[i] = true ∧ ∀ j (hj : j < l.length), j < i → p l[j] = false
 | [], h => by obtain ⟨x, hx, _⟩ := h; cases hx
 | a :: l, h => by
  by_cases e : p a = true
  ·exact ⟨0, by simp, e, fun j _ hj => by omega⟩
  ·obtain ⟨x, hx, hp⟩ := h
   rcases List.mem_cons.1 hx with rfl | hx
   ·exact absurd hp e
   ·obtain ⟨i, hi, h1, h2⟩ := first_of p l ⟨x, hx, hp⟩
    refine ⟨i + 1, by simpa using hi, by simpa using h1, fun j hj hji => ?_⟩
    cases j with
    | zero => simpa using e
    | succ j => exact h2 j (by simpa using hj) (by omega)
theorem least_of (p : Nat → Prop) [DecidablePred p] : ∀ N, p N → ∃ M, M ≤ N ∧ p M ∧ ∀ k, k < M → ¬ p k
 | 0, h => ⟨0, Nat.le_refl _, h, fun k hk => by omega⟩
 | N + 1, h => by
  by_cases e : ∃ k, k ≤ N ∧ p k
  ·obtain ⟨k, hk, hpk⟩ := e
   by_cases e2 : p N
   ·obtain ⟨M, h1, h2, h3⟩ := least_of p N e2
    exact ⟨M, by omega, h2, h3⟩
   ·have key : ∀ m k, k ≤ m → p k → ∃ M, M ≤ k ∧ p M ∧ ∀ j, j < M → ¬ p j := by
     intro m
     induction m with
     | zero =>
      intro k hk h
      obtain rfl : k = 0 := by omega
      exact ⟨0, Nat.le_refl _, h, fun j hj => by omega⟩
     | succ m ih =>
      intro k hk h
      by_cases e : ∃ j, j < k ∧ p j
      ·obtain ⟨j, hj, hpj⟩ := e
       obtain ⟨M, h1, h2, h3⟩ := ih j (by omega) hpj
       exact ⟨M, by omega, h2, h3⟩
      ·exact ⟨k, Nat.le_refl _, h, fun j hj hpj => e ⟨j, hj, hpj⟩⟩
    obtain ⟨M, h1, h2, h3⟩ := key N k hk hpk
    exact ⟨M, by omega, h2, h3⟩
  ·exact ⟨N + 1, Nat.le_refl _, h, fun k hk hpk => e ⟨k, by omega, hpk⟩⟩
theorem needed_ex (s : List (List Nat)) (n L : Nat) (hL : 1 ≤ L) (hall : isN s n (List.range L) = true) : ∃ M, M < L ∧ ∃ i0, ∃ hi0 : i0 < (partsL L (M + 1) 0).length, isN s n (partsL L (M + 1) 0)[i0] = true ∧ (∀ i (hi : i < (partsL L (M + 1) 0).length), i < i0 → isN s n (partsL L (M + 1) 0)[i] = false) ∧ ∀ k, k < M → ∀ x ∈ partsL L (k + 1) 0, isN s n x = false := by
 have hr : List.range L ∈ partsL L L 0 := by
  have := partsL_mem L (List.range L) 0 (asc_range L) fun k hk => ⟨Nat.zero_le _, List.mem_range.1 hk⟩
  rwa [List.length_range] at this
 obtain ⟨M, h1, h2, h3⟩ := least_of (fun M => ((partsL L (M + 1) 0).any (isN s n)) = true) (L - 1) (by
  rw [show L - 1 + 1 = L by omega]
  exact List.any_eq_true.2 ⟨_, hr, hall⟩)
 obtain ⟨i0, hi0, h4, h5⟩ := first_of (isN s n) _ (List.any_eq_true.1 h2)
 refine ⟨M, by omega, i0, hi0, h4, h5, fun k hk x hx => ?_⟩
 cases hc : isN s n x with
 | false => rfl
 | true => exact absurd (List.any_eq_true.2 ⟨x, hx, hc⟩) (h3 k hk)
theorem isN_all (s : List (List Nat)) (n : Nat) : isN s n (List.range s.length) = true := by
 unfold isN someN
 have e : (List.range s.length).map (fun k => s.getD k []) = s := by
  refine List.ext_getElem (by simp) fun i h1 h2 => ?_
  rw [List.getElem_map, List.getElem_range, List.getD_eq_getElem?_getD, List.getElem?_eq_getElem h2]; rfl
 rw [e]
 exact decide_eq_true rfl
end Go.Abs
