/-
 Several texts: Y6, Y7, Y8.
-/
import Derived.Test.YtodpkfillohplaaDoorX22
import Derived.Test.YtodpkfillohplaaDoorY2
set_option linter.all false
namespace Go.Abs
set_option maxRecDepth 10000
def cntF (f : Nat → Bool) : Nat → Nat
 | 0 => 0
 | p + 1 => cntF f p + (f p).toNat
def jfOf (hk : Nat) (j : List Nat) (q : Nat) : Bool := (j.getD (q / hk) 0).testBit (q % hk)
end Go.Abs
set_option linter.all false
namespace Go.Abs
set_option maxRecDepth 10000
def wN (a : Nat → Nat) : Nat → Nat → Nat → Nat
 | 0, n, s => if n = 0 ∧ s = 0 then 1 else 0
 | i + 1, n, s => wN a i n s + (if 1 ≤ n ∧ a i ≤ s then wN a i (n - 1) (s - a i) else 0)
theorem wN_le (a : Nat → Nat) : ∀ i n s, wN a i n s ≤ 2 ^ i
 | 0, n, s => by
  unfold wN;split <;> omega
 | i + 1, n, s => by
  have h1 := wN_le a i n s;have h2 := wN_le a i (n - 1) (s - a i);unfold wN;rw [Nat.pow_succ];split <;> omega
theorem wN_none (a : Nat → Nat) : ∀ i s, wN a i 0 s = if s = 0 then 1 else 0
 | 0, s => by
  unfold wN;simp
 | i + 1, s => by
  have e : wN a (i + 1) 0 s = wN a i 0 s + (if 1 ≤ 0 ∧ a i ≤ s then wN a i (0 - 1) (s - a i) else 0) := rfl
  rw [e, if_neg (by omega), Nat.add_zero, wN_none a i s]
def cN (r : Nat) : Nat → Nat → Nat → Nat
 | 0, n, s => if n = 0 ∧ s = 0 then 1 else 0
 | p + 1, n, s => cN r p n s + (if r.testBit p = true ∧ 1 ≤ n ∧ p ≤ s then cN r p (n - 1) (s - p) else 0)
theorem bitsN_mono (r : Nat) {p q : Nat} (h : p ≤ q) : bitsN r p ≤ bitsN r q := by
 obtain ⟨d, rfl⟩ := Nat.exists_eq_add_of_le h;induction d with
 | zero => exact Nat.le_refl _
 | succ d ih =>
  have h1 := ih (by omega)
  have h2 := bitsN_succ r (p + d);have e : p + (d + 1) = (p + d) + 1 := by omega
  rw [e, h2];omega
theorem itR_bit {r : Nat} (h : r < 2 ^ 24) : ∀ i, i ≤ bitsN r 24 → ∀ j, (itR r i).testBit j = (r.testBit j && decide (i ≤ bitsN r j))
 | 0, _, j => by simp [itR]
 | i + 1, hi, j => by
  have ih := itR_bit h i (by omega)
  have hne := it_ne h (show i < bitsN r 24 by omega)
  have hl := lowN_is hne;have hc := clr_bit hl j;unfold itR;rw [hc, ih j];have h1 := hl.at';rw [ih (lowN (itR r i)), Bool.and_eq_true, decide_eq_true_eq] at h1;have h2 := fun q hq => hl.none q hq
  have hb : ∀ q, q ≤ lowN (itR r i) → bitsN r q ≤ i := by
   intro q;induction q with
   | zero => intro _; simp [bitsN]
   | succ q ihq =>
    intro hq;have h3 := h2 q (by omega)
    rw [ih q] at h3;have h4 := ihq (by omega)
    rw [bitsN_succ];cases hrq : r.testBit q
    ·simp; omega
    ·rw [hrq, Bool.true_and] at h3
     have : ¬ i ≤ bitsN r q := of_decide_eq_false h3;simp; omega
  have hk1 : bitsN r (lowN (itR r i) + 1) = bitsN r (lowN (itR r i)) + 1 := by rw [bitsN_succ, h1.1]; rfl
  have hk0 := hb _ (Nat.le_refl _);rcases Nat.lt_trichotomy j (lowN (itR r i)) with hj | hj | hj
  ·have h3 := hb j (by omega)
   have h4 := h2 j hj;rw [ih j] at h4;rw [h4, Bool.false_and];cases hrj : r.testBit j
   ·rfl
   ·rw [Bool.true_and]
    exact (decide_eq_false (by omega)).symm
  ·rw [hj]
   simp;intro _;omega
  ·have h5 := bitsN_mono r (show lowN (itR r i) + 1 ≤ j by omega)
   have hne2 : (j == lowN (itR r i)) = false := by simp; omega
   rw [hne2, Bool.not_false, Bool.and_true]
   congr 1
   rw [decide_eq_true (by omega), decide_eq_true (by omega)]
theorem low_at {r P : Nat} (h : r < 2 ^ 24) (hP : r.testBit P = true) (hlt : bitsN r P < bitsN r 24) : lowN (itR r (bitsN r P)) = P := by
 have hl := lowN_is (it_ne h hlt);have hb := itR_bit h _ (Nat.le_of_lt hlt);rcases Nat.lt_trichotomy (lowN (itR r (bitsN r P))) P with hj | hj | hj
 ·have h1 := hl.at'
  rw [hb, Bool.and_eq_true, decide_eq_true_eq] at h1;have h2 := bitsN_mono r (show lowN (itR r (bitsN r P)) + 1 ≤ P by omega)
  rw [bitsN_succ, h1.1] at h2;have : (true).toNat = 1 := rfl;omega
 ·exact hj
 ·have h1 := hl.none P hj
  rw [hb, hP, Bool.true_and] at h1;exact absurd (Nat.le_refl _) (of_decide_eq_false h1)
theorem wN_cN {r : Nat} (h : r < 2 ^ 24) : ∀ P, P ≤ 24 → ∀ n s, wN (fun i => lowN (itR r i)) (bitsN r P) n s = cN r P n s
 | 0, _, n, s => by
  have : bitsN r 0 = 0 := by simp [bitsN]
  rw [this];rfl
 | P + 1, hP, n, s => by
  have ih := wN_cN h P (by omega)
  have hm := bitsN_mono r hP;rw [bitsN_succ] at hm ⊢;cases hb : r.testBit P
  ·unfold cN
   rw [hb];simp only [Bool.false_eq_true, false_and, if_false, Bool.toNat_false, Nat.add_zero];exact ih n s
  ·rw [hb] at hm
   have ht : (true).toNat = 1 := rfl;rw [ht] at hm ⊢;have hl := low_at h hb (by omega)
   have e1 : wN (fun i => lowN (itR r i)) (bitsN r P + 1) n s = wN (fun i => lowN (itR r i)) (bitsN r P) n s + (if 1 ≤ n ∧ lowN (itR r (bitsN r P)) ≤ s then wN (fun i => lowN (itR r i)) (bitsN r P) (n - 1) (s - lowN (itR r (bitsN r P))) else 0) := rfl
   have e2 : cN r (P + 1) n s = cN r P n s + (if r.testBit P = true ∧ 1 ≤ n ∧ P ≤ s then cN r P (n - 1) (s - P) else 0) := rfl
   rw [e1, e2, hl, hb, ih, ih];simp only [true_and]
def keyX (r : Nat) (x : Nat) : Nat → Bool
 | 0 => true
 | p + 1 => keyX r x p && (!x.testBit p || r.testBit p)
def selX (r p n s x : Nat) : Bool := keyX r x p && decide (bitsN x p = n) && decide (sumB x p = s)
theorem bits_congr {x y : Nat} : ∀ {p : Nat}, (∀ j, j < p → x.testBit j = y.testBit j) → bitsN x p = bitsN y p ∧ sumB x p = sumB y p ∧ ∀ r, keyX r x p = keyX r y p
 | 0, _ => ⟨by simp [bitsN], rfl, fun _ => rfl⟩
 | p + 1, h => by
  obtain ⟨h1, h2, h3⟩ := bits_congr (p := p) fun j hj => h j (by omega)
  rw [bitsN_succ, bitsN_succ, h1, h p (by omega)]
  refine ⟨rfl, ?_, fun r => ?_⟩
  ·unfold sumB
   rw [h2, h p (by omega)]
  ·unfold keyX
   rw [h3 r, h p (by omega)]
theorem keyX_succ (r x p : Nat) : keyX r x (p + 1) = (keyX r x p && (!x.testBit p || r.testBit p)) := rfl
theorem sumB_succ (x n : Nat) : sumB x (n + 1) = sumB x n + (if x.testBit n then n else 0) := rfl
theorem sel_low {r p n s x : Nat} (hx : x < 2 ^ p) : selX r (p + 1) n s x = selX r p n s x := by
 have hb : x.testBit p = false := Nat.testBit_lt_two_pow hx;unfold selX;rw [keyX_succ, bitsN_succ, sumB_succ, hb];simp
theorem sel_high {r p n s x : Nat} (hx : x < 2 ^ p) : selX r (p + 1) n s (2 ^ p + x) = (decide (r.testBit p = true ∧ 1 ≤ n ∧ p ≤ s) && selX r p (n - 1) (s - p) x) := by
 have hb : (2 ^ p + x).testBit p = true := by
  rw [Nat.testBit_two_pow_add_eq, Nat.testBit_lt_two_pow hx]; rfl
 obtain ⟨c1, c2, c3⟩ := bits_congr (x := 2 ^ p + x) (y := x) (p := p) fun j hj => Nat.testBit_two_pow_add_gt hj x
 unfold selX;rw [keyX_succ, bitsN_succ, sumB_succ, hb, c1, c2, c3];simp only [Bool.not_true, Bool.false_or, Bool.toNat_true, if_true];by_cases h1 : r.testBit p = true
 ·by_cases h2 : 1 ≤ n ∧ p ≤ s
  ·have hd : decide (r.testBit p = true ∧ 1 ≤ n ∧ p ≤ s) = true := decide_eq_true ⟨h1, h2⟩
   rw [hd, h1, Bool.and_true, Bool.true_and];have e1 : (bitsN x p + 1 = n) = (bitsN x p = n - 1) := propext ⟨fun h => by omega, fun h => by omega⟩
   have e2 : (sumB x p + p = s) = (sumB x p = s - p) := propext ⟨fun h => by omega, fun h => by omega⟩
   simp only [e1, e2]
  ·have hd : decide (r.testBit p = true ∧ 1 ≤ n ∧ p ≤ s) = false := decide_eq_false fun h => h2 h.2
   rw [hd, Bool.false_and, Bool.and_assoc, Bool.and_eq_false_iff];right
   rw [Bool.and_eq_false_iff];by_cases h3 : 1 ≤ n
   ·right
    exact decide_eq_false (by omega)
   ·left
    exact decide_eq_false (by omega)
 ·have h1' : r.testBit p = false := by simpa using h1
  have hd : decide (r.testBit p = true ∧ 1 ≤ n ∧ p ≤ s) = false := decide_eq_false fun h => h1 h.1
  rw [hd, h1'];simp
theorem sel_count (r : Nat) : ∀ p n s, ((List.range (2 ^ p)).filter (selX r p n s)).length = cN r p n s
 | 0, n, s => by
  have e : bitsN 0 0 = 0 := by simp [bitsN]
  by_cases h : n = 0 ∧ s = 0
  ·obtain ⟨rfl, rfl⟩ := h
   simp [selX, keyX, e, sumB, cN]
  ·have : selX r 0 n s 0 = false := by
    unfold selX;rw [e];simp only [keyX, sumB, Bool.true_and];rw [Bool.and_eq_false_iff];by_cases h1 : n = 0
    ·exact .inr (decide_eq_false fun h2 => h ⟨h1, h2.symm⟩)
    ·exact .inl (decide_eq_false fun h2 => h1 h2.symm)
   simp [this, cN, h]
 | p + 1, n, s => by
  rw [range_two, List.filter_append, List.length_append, List.filter_map, List.length_map];rw [filter_len_congr (q := selX r p n s) (fun x hx => sel_low (List.mem_range.1 hx))]
  rw [filter_len_congr (p := selX r (p + 1) n s ∘ (2 ^ p + ·)) (q := fun x => decide (r.testBit p = true ∧ 1 ≤ n ∧ p ≤ s) && selX r p (n - 1) (s - p) x) (fun x hx => sel_high (List.mem_range.1 hx))]
  have e2 : cN r (p + 1) n s = cN r p n s + (if r.testBit p = true ∧ 1 ≤ n ∧ p ≤ s then cN r p (n - 1) (s - p) else 0) := rfl
  rw [e2, sel_count r p n s];by_cases h : r.testBit p = true ∧ 1 ≤ n ∧ p ≤ s
  ·rw [if_pos h, decide_eq_true h]
   simp only [Bool.true_and];rw [sel_count r p (n - 1) (s - p)]
  ·rw [if_neg h, decide_eq_false h]
   simp
end Go.Abs
set_option linter.all false
namespace Go.Abs
set_option maxRecDepth 10000
def cZ (r p : Nat) (n s : Int) : Nat := if 0 ≤ n ∧ 0 ≤ s then cN r p n.toNat s.toNat else 0
theorem cZ_succ (r p : Nat) (n s : Int) : cZ r (p + 1) n s = cZ r p n s + (if r.testBit p = true then cZ r p (n - 1) (s - p) else 0) := by
 unfold cZ;by_cases h : 0 ≤ n ∧ 0 ≤ s
 ·rw [if_pos h, if_pos h]
  have e : cN r (p + 1) n.toNat s.toNat = cN r p n.toNat s.toNat + (if r.testBit p = true ∧ 1 ≤ n.toNat ∧ p ≤ s.toNat then cN r p (n.toNat - 1) (s.toNat - p) else 0) := rfl
  rw [e];by_cases h1 : r.testBit p = true
  ·rw [if_pos h1]
   by_cases h2 : 0 ≤ n - 1 ∧ 0 ≤ s - p
   ·rw [if_pos h2, if_pos ⟨h1, by omega, by omega⟩]
    congr 2 <;> omega
   ·rw [if_neg h2, if_neg (fun h3 => h2 ⟨by omega, by omega⟩)]
  ·rw [if_neg h1, if_neg (fun h3 => h1 h3.1)]
 ·rw [if_neg h, if_neg h]
  by_cases h1 : r.testBit p = true
  ·rw [if_pos h1, if_neg (fun h2 => h ⟨by omega, by omega⟩)]
  ·rw [if_neg h1]
theorem cZ_zero (r : Nat) (n s : Int) : cZ r 0 n s = if n = 0 ∧ s = 0 then 1 else 0 := by
 unfold cZ cN;by_cases h : 0 ≤ n ∧ 0 ≤ s
 ·rw [if_pos h]
  by_cases h2 : n = 0 ∧ s = 0
  ·rw [if_pos h2, if_pos (by omega)]
  ·rw [if_neg h2, if_neg (by omega)]
 ·rw [if_neg h, if_neg (fun h2 => h (by omega))]
theorem cN_top {r hk : Nat} (h : r < 2 ^ hk) (n s : Nat) : ∀ d, cN r (hk + d) n s = cN r hk n s
 | 0 => rfl
 | d + 1 => by
  have hb : r.testBit (hk + d) = false := Nat.testBit_lt_two_pow (Nat.lt_of_lt_of_le h (Nat.pow_le_pow_right (by omega) (by omega)))
  have e : cN r (hk + (d + 1)) n s = cN r (hk + d) n s + (if r.testBit (hk + d) = true ∧ 1 ≤ n ∧ hk + d ≤ s then cN r (hk + d) (n - 1) (s - (hk + d)) else 0) := rfl
  rw [e, hb, if_neg (by simp), Nat.add_zero, cN_top h n s d]
theorem cZ_top {r hk p : Nat} (h : r < 2 ^ hk) (hp : hk ≤ p) (n s : Int) : cZ r p n s = cZ r hk n s := by
 obtain ⟨d, rfl⟩ := Nat.exists_eq_add_of_le hp;unfold cZ;split
 ·exact cN_top h _ _ d
 ·rfl
def allS : Nat → Nat
 | 0 => 0
 | p + 1 => allS p + p
theorem sumB_all (x : Nat) : ∀ p, (∀ j, j < p → x.testBit j = true) → sumB x p = allS p ∧ bitsN x p = p
 | 0, _ => ⟨rfl, by simp [bitsN]⟩
 | p + 1, h => by
  obtain ⟨h1, h2⟩ := sumB_all x p fun j hj => h j (by omega)
  rw [sumB_succ, bitsN_succ, h1, h2, h p (by omega)]
  exact ⟨rfl, rfl⟩
theorem bitsN_le (x : Nat) : ∀ p, bitsN x p ≤ p
 | 0 => by simp [bitsN]
 | p + 1 => by
  have := bitsN_le x p;rw [bitsN_succ];cases x.testBit p <;> simp <;> omega
def betX (t : Bool) (j a x : Nat) : Nat → Bool
 | 0 => true
 | p + 1 => betX t j a x p && (!j.testBit p || (x.testBit p ^^ t)) && (!(x.testBit p ^^ t) || a.testBit p)
theorem betX_succ (t : Bool) (j a x p : Nat) : betX t j a x (p + 1) = (betX t j a x p && (!j.testBit p || (x.testBit p ^^ t)) && (!(x.testBit p ^^ t) || a.testBit p)) := rfl
theorem betX_iff {t : Bool} {j a x : Nat} : ∀ {p : Nat}, betX t j a x p = true ↔ ∀ q, q < p → (j.testBit q = true → (x.testBit q ^^ t) = true) ∧ ((x.testBit q ^^ t) = true → a.testBit q = true)
 | 0 => by simp [betX]
 | p + 1 => by
  rw [betX_succ, Bool.and_eq_true, Bool.and_eq_true, betX_iff (p := p)];constructor
  ·rintro ⟨⟨h1, h2⟩, h3⟩ q hq
   by_cases e : q = p
   ·subst e
    refine ⟨fun h => ?_, fun h => ?_⟩
    ·rw [h] at h2; simpa using h2
    ·rw [h] at h3; simpa using h3
   ·exact h1 q (by omega)
  ·intro h
   obtain ⟨h4, h5⟩ := h p (by omega)
   refine ⟨⟨fun q hq => h q (by omega), ?_⟩, ?_⟩
   ·cases hj : j.testBit p
    ·rfl
    ·rw [h4 hj]; rfl
   ·cases hx : (x.testBit p ^^ t)
    ·rfl
    ·rw [h5 hx]; rfl
theorem betX_congr {t : Bool} {j a x y : Nat} : ∀ {p : Nat}, (∀ q, q < p → x.testBit q = y.testBit q) → betX t j a x p = betX t j a y p
 | 0, _ => rfl
 | p + 1, h => by
  rw [betX_succ, betX_succ, betX_congr (p := p) fun q hq => h q (by omega), h p (by omega)]
def selA (t : Bool) (j a p : Nat) (n s : Int) (x : Nat) : Bool := betX t j a x p && (decide ((bitsN x p : Int) = n) && decide ((sumB x p : Int) = s))
theorem selA_low {t : Bool} {j a p : Nat} {n s : Int} {x : Nat} (hx : x < 2 ^ p) : selA t j a (p + 1) n s x = ((!j.testBit p || t) && (!t || a.testBit p) && selA t j a p n s x) := by
 have hb : x.testBit p = false := Nat.testBit_lt_two_pow hx;unfold selA;rw [betX_succ, bitsN_succ, sumB_succ, hb];simp only [Bool.false_xor, Bool.toNat_false, Nat.add_zero, Bool.false_eq_true, if_false];cases betX t j a x p <;> cases (!j.testBit p || t) <;> cases (!t || a.testBit p) <;> rfl
theorem selA_high {t : Bool} {j a p : Nat} {n s : Int} {x : Nat} (hx : x < 2 ^ p) : selA t j a (p + 1) n s (2 ^ p + x) = ((!j.testBit p || !t) && (t || a.testBit p) && selA t j a p (n - 1) (s - p) x) := by
 have hb : (2 ^ p + x).testBit p = true := by
  rw [Nat.testBit_two_pow_add_eq, Nat.testBit_lt_two_pow hx]; rfl
 obtain ⟨c1, c2, _⟩ := bits_congr (x := 2 ^ p + x) (y := x) (p := p) fun j hj => Nat.testBit_two_pow_add_gt hj x
 have c3 := betX_congr (t := t) (j := j) (a := a) (x := 2 ^ p + x) (y := x) (p := p) fun j hj => Nat.testBit_two_pow_add_gt hj x
 unfold selA;rw [betX_succ, bitsN_succ, sumB_succ, hb, c1, c2, c3];simp only [Bool.true_xor, Bool.toNat_true, if_true, Bool.not_not];have e1 : (((bitsN x p + 1 : Nat) : Int) = n) = ((bitsN x p : Int) = n - 1) := propext ⟨fun h => by omega, fun h => by omega⟩
 have e2 : (((sumB x p + p : Nat) : Int) = s) = ((sumB x p : Int) = s - p) := propext ⟨fun h => by omega, fun h => by omega⟩
 simp only [e1, e2];cases betX t j a x p <;> cases (!j.testBit p || !t) <;> cases (t || a.testBit p) <;> rfl
theorem filt_none (n : Nat) : ((List.range n).filter fun _ => false).length = 0 := by simp
def nL (t : Bool) (j p : Nat) (n : Int) : Int := if t then (p : Int) - n - bitsN j p else n - bitsN j p
def sL (t : Bool) (j p : Nat) (s : Int) : Int := if t then (allS p : Int) - s - sumB j p else s - sumB j p
theorem selA_count (t : Bool) (j a r : Nat) : ∀ p, (∀ q, q < p → r.testBit q = (a.testBit q && !j.testBit q) ∧ (j.testBit q = true → a.testBit q = true)) → ∀ n s, ((List.range (2 ^ p)).filter (selA t j a p n s)).length = cZ r p (nL t j p n) (sL t j p s)
 | 0, _, n, s => by
  rw [cZ_zero];have e0 : bitsN j 0 = 0 := by simp [bitsN]
  have e1 : bitsN 0 0 = 0 := by simp [bitsN]
  have e2 : (nL t j 0 n = 0 ∧ sL t j 0 s = 0) ↔ (0 = n ∧ 0 = s) := by
   unfold nL sL;rw [e0];simp only [allS, sumB];cases t <;> simp <;> omega
  by_cases h : 0 = n ∧ 0 = s
  ·obtain ⟨rfl, rfl⟩ := h
   rw [if_pos (e2.2 ⟨rfl, rfl⟩)];simp [selA, betX, e1, sumB]
  ·rw [if_neg (fun h2 => h (e2.1 h2))]
   have : selA t j a 0 n s 0 = false := by
    unfold selA;rw [e1];simp only [betX, sumB, Bool.true_and];rw [Bool.and_eq_false_iff];by_cases h1 : (0 : Int) = n
    ·exact .inr (decide_eq_false fun h2 => h ⟨h1, h2⟩)
    ·exact .inl (decide_eq_false fun h2 => h1 h2)
   simp [this]
 | p + 1, hr, n, s => by
  have ih := selA_count t j a r p fun q hq => hr q (by omega)
  obtain ⟨hr1, hr2⟩ := hr p (by omega)
  rw [range_two, List.filter_append, List.length_append, List.filter_map, List.length_map];rw [filter_len_congr (q := fun x => (!j.testBit p || t) && (!t || a.testBit p) && selA t j a p n s x) (fun x hx => selA_low (List.mem_range.1 hx))]
  rw [filter_len_congr (p := selA t j a (p + 1) n s ∘ (2 ^ p + ·)) (q := fun x => (!j.testBit p || !t) && (t || a.testBit p) && selA t j a p (n - 1) (s - p) x) (fun x hx => selA_high (List.mem_range.1 hx))]
  rw [cZ_succ, hr1];have hb := bitsN_succ j p;have hs := sumB_succ j p;have ha : allS (p + 1) = allS p + p := rfl;have i1 := ih n s;have i2 := ih (n - 1) (s - p);cases hj : j.testBit p
  ·rw [hj] at hb hs
   simp only [Bool.toNat_false, Nat.add_zero, Bool.false_eq_true, if_false] at hb hs;cases hap : a.testBit p
   ·cases t
    ·simp only [Bool.not_false, Bool.true_or, Bool.not_true, Bool.true_and, Bool.false_or, Bool.and_false, Bool.false_and, Bool.or_false, Bool.or_true, Bool.and_true, Bool.false_eq_true, if_false]
     rw [i1];simp only [filt_none, Nat.add_zero];unfold nL sL;simp only [Bool.false_eq_true, if_false];rw [hb, hs]
    ·simp only [Bool.not_false, Bool.true_or, Bool.not_true, Bool.true_and, Bool.false_or, Bool.and_false, Bool.false_and, Bool.or_false, Bool.or_true, Bool.and_true, Bool.false_eq_true, if_false]
     rw [i2];simp only [filt_none, Nat.zero_add, Nat.add_zero];unfold nL sL;simp only [if_true];rw [hb, hs, ha]
     congr 1 <;> omega
   ·cases t
    ·simp only [Bool.not_false, Bool.true_or, Bool.not_true, Bool.true_and, Bool.false_or, Bool.and_false, Bool.false_and, Bool.or_false, Bool.or_true, Bool.and_true, if_true]
     rw [i1, i2];unfold nL sL;simp only [Bool.false_eq_true, if_false];rw [hb, hs]
     congr 2 <;> omega
    ·simp only [Bool.not_false, Bool.true_or, Bool.not_true, Bool.true_and, Bool.false_or, Bool.and_false, Bool.false_and, Bool.or_false, Bool.or_true, Bool.and_true, if_true]
     rw [i1, i2, Nat.add_comm];unfold nL sL;simp only [if_true];rw [hb, hs, ha]
     congr 2 <;> omega
  ·rw [hj] at hb hs
   simp only [Bool.toNat_true, if_true] at hb hs;have hap := hr2 hj;rw [hap];cases t
   ·simp only [Bool.not_false, Bool.true_or, Bool.not_true, Bool.true_and, Bool.false_or, Bool.and_false, Bool.false_and, Bool.or_false, Bool.or_true, Bool.and_true, Bool.false_eq_true, if_false, if_true]
    rw [i2];simp only [filt_none, Nat.zero_add, Nat.add_zero];unfold nL sL;simp only [Bool.false_eq_true, if_false];rw [hb, hs]
    congr 1 <;> omega
   ·simp only [Bool.not_false, Bool.true_or, Bool.not_true, Bool.true_and, Bool.false_or, Bool.and_false, Bool.false_and, Bool.or_false, Bool.or_true, Bool.and_true, Bool.false_eq_true, if_false, if_true]
    rw [i1];simp only [filt_none, Nat.zero_add, Nat.add_zero];unfold nL sL;simp only [if_true];rw [hb, hs, ha]
    congr 1 <;> omega
end Go.Abs
