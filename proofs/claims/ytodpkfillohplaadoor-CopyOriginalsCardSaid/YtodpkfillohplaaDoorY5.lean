/-
 Chapter 12, plain law: in how many ways some of so many points can be chosen, and which numbers choose them. No program in sight.
-/
import Derived.Test.YtodpkfillohplaaDoorY1
import Derived.Test.YtodpkfillohplaaDoorM3
set_option linter.all false
namespace Go.Abs
set_option maxRecDepth 10000

def capK : Nat := 1000000000001
/-- in how many ways k of p points can be chosen, up to a bound -/
def wayT : Nat → Nat → Nat
 | 0, 0 => 1
 | 0, _ + 1 => 0
 | _ + 1, 0 => 1
 | p + 1, k + 1 => min capK (wayT p (k + 1) + wayT p k)
theorem wayT_le : ∀ p k, wayT p k ≤ capK
 | 0, 0 => by decide
 | 0, _ + 1 => by unfold wayT; omega
 | _ + 1, 0 => by unfold wayT; decide
 | p + 1, k + 1 => by unfold wayT; exact Nat.min_le_left _ _
theorem wayT_zero : ∀ p, wayT p 0 = 1
 | 0 => rfl
 | _ + 1 => rfl
theorem wayT_out : ∀ p k, p < k → wayT p k = 0
 | 0, 0, h => by omega
 | 0, _ + 1, _ => rfl
 | _ + 1, 0, h => by omega
 | p + 1, k + 1, h => by
  unfold wayT
  rw [wayT_out p (k + 1) (by omega), wayT_out p k (by omega)]
  rfl
/-- of less than k -/
def sumW (p : Nat) : Nat → Nat
 | 0 => 0
 | k + 1 => min capK (sumW p k + wayT p k)
theorem sumW_le (p : Nat) : ∀ k, sumW p k ≤ capK
 | 0 => by unfold sumW; decide
 | k + 1 => by unfold sumW; exact Nat.min_le_left _ _
theorem sumW_out (p : Nat) : ∀ k, sumW p (p + 1 + k) = sumW p (p + 1)
 | 0 => rfl
 | k + 1 => by
  have e : p + 1 + (k + 1) = (p + 1 + k) + 1 := by omega
  rw [e]
  conv => lhs; unfold sumW
  rw [wayT_out p (p + 1 + k) (by omega), sumW_out p k, Nat.add_zero]
  exact Nat.min_eq_right (sumW_le p (p + 1))
/-- without a bound -/
def chN : Nat → Nat → Nat
 | 0, 0 => 1
 | 0, _ + 1 => 0
 | _ + 1, 0 => 1
 | p + 1, k + 1 => chN p (k + 1) + chN p k
def chS (p : Nat) : Nat → Nat
 | 0 => 0
 | k + 1 => chS p k + chN p k
theorem chN_zero : ∀ p, chN p 0 = 1
 | 0 => rfl
 | _ + 1 => rfl
theorem chS_succ (p : Nat) : ∀ k, chS (p + 1) (k + 1) = chS p (k + 1) + chS p k
 | 0 => by
  simp only [chS, chN_zero]
 | k + 1 => by
  have h := chS_succ p k
  have e1 : chS (p + 1) (k + 1 + 1) = chS (p + 1) (k + 1) + chN (p + 1) (k + 1) := rfl
  have e2 : chN (p + 1) (k + 1) = chN p (k + 1) + chN p k := rfl
  have e3 : chS p (k + 1 + 1) = chS p (k + 1) + chN p (k + 1) := rfl
  have e4 : chS p (k + 1) = chS p k + chN p k := rfl
  omega
theorem chS_none : ∀ k, chS 0 k ≤ 1
 | 0 => by decide
 | 1 => by decide
 | k + 2 => by
  have := chS_none (k + 1)
  have e : chS 0 (k + 2) = chS 0 (k + 1) + chN 0 (k + 1) := rfl
  have e2 : chN 0 (k + 1) = 0 := rfl
  omega
theorem chS_le : ∀ p k, chS p k ≤ 2 ^ p
 | 0, k => chS_none k
 | p + 1, 0 => by unfold chS; exact Nat.zero_le _
 | p + 1, k + 1 => by
  rw [chS_succ]
  have h1 := chS_le p (k + 1)
  have h2 := chS_le p k
  rw [Nat.pow_succ]; omega
theorem chN_le (p k : Nat) : chN p k ≤ 2 ^ p := by
 have h := chS_le p (k + 1)
 have e : chS p (k + 1) = chS p k + chN p k := rfl
 omega
theorem pow_cap {p : Nat} (h : p ≤ 30) : 2 ^ p < capK := by
 have : 2 ^ p ≤ 2 ^ 30 := Nat.pow_le_pow_right (by omega) h
 exact Nat.lt_of_le_of_lt this (by decide)
theorem way_small : ∀ p k, p ≤ 30 → wayT p k = chN p k
 | 0, 0, _ => rfl
 | 0, _ + 1, _ => rfl
 | _ + 1, 0, _ => rfl
 | p + 1, k + 1, h => by
  have h1 := chN_le (p + 1) (k + 1)
  have h2 := pow_cap h
  unfold wayT
  rw [way_small p (k + 1) (by omega), way_small p k (by omega)]
  have e : chN (p + 1) (k + 1) = chN p (k + 1) + chN p k := rfl
  rw [e] at h1 ⊢
  exact Nat.min_eq_right (by omega)
theorem sum_small {p : Nat} (h : p ≤ 30) : ∀ k, sumW p k = chS p k
 | 0 => rfl
 | k + 1 => by
  have h1 := chS_le p (k + 1)
  have h2 := pow_cap h
  unfold sumW
  rw [sum_small h k, way_small p k h]
  have e : chS p (k + 1) = chS p k + chN p k := rfl
  rw [e] at h1 ⊢
  exact Nat.min_eq_right (by omega)

/-! ### Numbers that have some bits, and some more -/
/-- all bits below p that j has -/
def okX (t : Bool) (jf : Nat → Bool) (x : Nat) : Nat → Bool
 | 0 => true
 | p + 1 => okX t jf x p && (!jf p || (x.testBit p ^^ t))
/-- how many more -/
def exX (t : Bool) (jf : Nat → Bool) (x : Nat) : Nat → Nat
 | 0 => 0
 | p + 1 => exX t jf x p + (!jf p && (x.testBit p ^^ t)).toNat
def gapX (jf : Nat → Bool) : Nat → Nat
 | 0 => 0
 | p + 1 => gapX jf p + (!jf p).toNat
theorem gapX_le (jf : Nat → Bool) : ∀ p, gapX jf p ≤ p
 | 0 => Nat.le_refl _
 | p + 1 => by
  have := gapX_le jf p
  unfold gapX
  cases jf p <;> simp <;> omega
theorem okX_congr {t : Bool} {jf : Nat → Bool} {x y : Nat} : ∀ {p : Nat}, (∀ j, j < p → x.testBit j = y.testBit j) → okX t jf x p = okX t jf y p ∧ exX t jf x p = exX t jf y p
 | 0, _ => ⟨rfl, rfl⟩
 | p + 1, h => by
  obtain ⟨h1, h2⟩ := okX_congr (t := t) (jf := jf) (p := p) fun j hj => h j (by omega)
  unfold okX exX
  rw [h1, h2, h p (by omega)]
  exact ⟨rfl, rfl⟩
theorem okX_iff {t : Bool} {jf : Nat → Bool} {x : Nat} : ∀ {p : Nat}, okX t jf x p = true ↔ ∀ j, j < p → jf j = true → (x.testBit j ^^ t) = true
 | 0 => by simp [okX]
 | p + 1 => by
  unfold okX
  rw [Bool.and_eq_true, okX_iff (p := p), Bool.or_eq_true]
  constructor
  ·rintro ⟨h1, h2⟩ j hj hjf
   by_cases e : j = p
   ·subst e
    rcases h2 with h2 | h2
    ·rw [hjf] at h2; cases h2
    ·exact h2
   ·exact h1 j (by omega) hjf
  ·intro h
   refine ⟨fun j hj => h j (by omega), ?_⟩
   cases hjf : jf p
   ·exact .inl rfl
   ·exact .inr (h p (by omega) hjf)
theorem okX_succ (t : Bool) (jf : Nat → Bool) (x p : Nat) : okX t jf x (p + 1) = (okX t jf x p && (!jf p || (x.testBit p ^^ t))) := rfl
theorem exX_succ (t : Bool) (jf : Nat → Bool) (x p : Nat) : exX t jf x (p + 1) = exX t jf x p + (!jf p && (x.testBit p ^^ t)).toNat := rfl
def goodX (t : Bool) (jf : Nat → Bool) (p m x : Nat) : Bool := okX t jf x p && decide (exX t jf x p < m)
theorem filter_len_congr {α : Type} {p q : α → Bool} {l : List α} (h : ∀ x ∈ l, p x = q x) : (l.filter p).length = (l.filter q).length := by
 rw [List.filter_congr h]
theorem range_two (p : Nat) : List.range (2 ^ (p + 1)) = List.range (2 ^ p) ++ (List.range (2 ^ p)).map (2 ^ p + ·) := by
 rw [Nat.pow_succ, show 2 ^ p * 2 = 2 ^ p + 2 ^ p by omega, List.range_add]
theorem good_low {t : Bool} {jf : Nat → Bool} {p m x : Nat} (hx : x < 2 ^ p) : goodX t jf (p + 1) m x = (if jf p then t && goodX t jf p m x else if t then goodX t jf p (m - 1) x && decide (m ≠ 0) else goodX t jf p m x) := by
 have hb : x.testBit p = false := Nat.testBit_lt_two_pow hx
 unfold goodX
 rw [okX_succ, exX_succ, hb]
 cases jf p <;> cases t
 ·simp
 ·simp
  cases okX true jf x p <;> simp
  rcases m with _ | m <;> simp <;> omega
 ·simp
 ·simp
theorem good_high {t : Bool} {jf : Nat → Bool} {p m x : Nat} (hx : x < 2 ^ p) : goodX t jf (p + 1) m (2 ^ p + x) = (if jf p then !t && goodX t jf p m x else if !t then goodX t jf p (m - 1) x && decide (m ≠ 0) else goodX t jf p m x) := by
 have hb : (2 ^ p + x).testBit p = true := by
  rw [Nat.testBit_two_pow_add_eq, Nat.testBit_lt_two_pow hx]; rfl
 have hc := okX_congr (t := t) (jf := jf) (x := 2 ^ p + x) (y := x) (p := p) fun j hj => Nat.testBit_two_pow_add_gt hj x
 unfold goodX
 rw [okX_succ, exX_succ, hb, hc.1, hc.2]
 cases jf p <;> cases t
 ·simp
  cases okX false jf x p <;> simp
  rcases m with _ | m <;> simp <;> omega
 ·simp
 ·simp
 ·simp
theorem good_count (t : Bool) (jf : Nat → Bool) : ∀ p m, ((List.range (2 ^ p)).filter (goodX t jf p m)).length = chS (gapX jf p) m
 | 0, m => by
  rcases m with _ | m
  ·simp [goodX, okX, exX, chS, gapX]
  ·have h : chS 0 (m + 1) = 1 := by
    induction m with
    | zero => rfl
    | succ m ih =>
     have e : chS 0 (m + 1 + 1) = chS 0 (m + 1) + chN 0 (m + 1) := rfl
     rw [e, ih]; rfl
   simp [goodX, okX, exX, gapX, h]
 | p + 1, m => by
  have hm := good_count t jf p m
  have hm1 := good_count t jf p (m - 1)
  rw [range_two, List.filter_append, List.length_append, List.filter_map, List.length_map]
  rw [filter_len_congr (q := fun x => if jf p then t && goodX t jf p m x else if t then goodX t jf p (m - 1) x && decide (m ≠ 0) else goodX t jf p m x) (fun x hx => good_low (List.mem_range.1 hx))]
  rw [filter_len_congr (p := goodX t jf (p + 1) m ∘ (2 ^ p + ·)) (q := fun x => if jf p then !t && goodX t jf p m x else if !t then goodX t jf p (m - 1) x && decide (m ≠ 0) else goodX t jf p m x) (fun x hx => good_high (List.mem_range.1 hx))]
  unfold gapX
  have hf : ∀ n, ((List.range n).filter fun _ => false).length = 0 := fun n => by simp
  have hs : chS (gapX jf p + 1) m = chS (gapX jf p) m + (if m ≠ 0 then chS (gapX jf p) (m - 1) else 0) := by
   rcases m with _ | m
   ·rfl
   ·rw [chS_succ]; simp
  cases jf p <;> cases t <;> simp only [Bool.false_eq_true, if_false, if_true, ite_false, ite_true, Bool.not_false, Bool.not_true, Bool.true_and, Bool.false_and, Bool.toNat_true, Bool.toNat_false, Nat.add_zero]
  ·rw [hs, hm]
   by_cases h0 : m = 0
   ·simp [h0]
   ·simp [h0, hm1]
  ·rw [hs, hm]
   by_cases h0 : m = 0
   ·simp [h0]
   ·simp [h0, hm1]; omega
  ·rw [hf, hm]; omega
  ·rw [hf, hm]; omega
/-- the number that has just these bits, and one more -/
def numX (t : Bool) (jf : Nat → Bool) (p : Nat) (q : Option Nat) : Nat := rowTo (fun j => (jf j || decide (some j = q)) ^^ t) p
theorem numX_bit (t : Bool) (jf : Nat → Bool) (p : Nat) (q : Option Nat) {j : Nat} (h : j < p) : ((numX t jf p q).testBit j ^^ t) = (jf j || decide (some j = q)) := by
 unfold numX
 rw [rowTo_bit, decide_eq_true h, Bool.true_and, Bool.xor_assoc, Bool.xor_self, Bool.xor_false]
theorem numX_lt (t : Bool) (jf : Nat → Bool) (p : Nat) (q : Option Nat) : numX t jf p q < 2 ^ p := rowTo_lt _ _
theorem exX_eq {t : Bool} {jf : Nat → Bool} {x : Nat} {q : Option Nat} : ∀ {p : Nat}, (∀ j, j < p → (x.testBit j ^^ t) = (jf j || decide (some j = q))) → exX t jf x p ≤ 1 ∧ (q = none → exX t jf x p = 0) ∧ ∀ k, q = some k → p ≤ k → exX t jf x p = 0
 | 0, _ => ⟨by unfold exX; omega, fun _ => rfl, fun _ _ _ => rfl⟩
 | p + 1, h => by
  obtain ⟨h1, h2, h3⟩ := exX_eq (t := t) (jf := jf) (x := x) (q := q) (p := p) fun j hj => h j (by omega)
  unfold exX
  rw [h p (by omega)]
  by_cases e : some p = q
  ·have h4 := h3 p e.symm (Nat.le_refl _)
   rw [h4, decide_eq_true e]
   refine ⟨by cases jf p <;> simp, ?_, ?_⟩
   ·intro hq
    rw [hq] at e
    cases e
   ·intro k hk hpk
    rw [hk] at e
    cases e
    omega
  ·rw [decide_eq_false e]
   have e0 : (!jf p && (jf p || false)).toNat = 0 := by cases jf p <;> rfl
   rw [e0, Nat.add_zero]
   exact ⟨h1, h2, fun k hk hpk => h3 k hk (by omega)⟩
theorem numX_good (t : Bool) (jf : Nat → Bool) (p m : Nat) (q : Option Nat) (h : q = none ∨ 1 ≤ m) : goodX t jf p (m + 1) (numX t jf p q) = true := by
 have hb := fun j (hj : j < p) => numX_bit t jf p q hj
 obtain ⟨h1, h2, _⟩ := exX_eq (x := numX t jf p q) (p := p) hb
 unfold goodX
 rw [Bool.and_eq_true]
 refine ⟨okX_iff.2 fun j hj hjf => by rw [hb j hj, hjf]; rfl, decide_eq_true ?_⟩
 rcases h with h | h
 ·have := h2 h; omega
 ·omega
/-! ### what all of some numbers have, and what some have -/
def andA : List Nat → Nat
 | [] => 0
 | r :: l => l.foldl (· &&& ·) r
theorem foldl_and_bit (l : List Nat) (r j : Nat) : (l.foldl (· &&& ·) r).testBit j = (r.testBit j && l.all fun x => x.testBit j) := by
 induction l generalizing r with
 | nil => simp
 | cons x l ih => simp [ih, Nat.testBit_and, Bool.and_assoc]
theorem andA_bit {l : List Nat} (h : l ≠ []) (j : Nat) : (andA l).testBit j = l.all fun x => x.testBit j := by
 cases l with
 | nil => exact absurd rfl h
 | cons r l => simp [andA, foldl_and_bit]
theorem andA_snoc (l : List Nat) (x : Nat) : andA (l ++ [x]) = if l = [] then x else andA l &&& x := by
 cases l with
 | nil => rfl
 | cons r l => simp [andA]
theorem andA_lt {l : List Nat} {n : Nat} (h : ∀ r ∈ l, r < 2 ^ n) : andA l < 2 ^ n := by
 cases l with
 | nil => exact Nat.pow_pos (by omega)
 | cons r l =>
  refine Nat.lt_pow_two_of_testBit _ fun j hj => ?_
  rw [andA_bit (by simp)]
  have := h r (by simp)
  simp only [List.all_cons, Bool.and_eq_false_iff]
  exact .inl (Nat.testBit_lt_two_pow (Nat.lt_of_lt_of_le this (Nat.pow_le_pow_right (by omega) hj)))
end Go.Abs
