/-
 Several texts: Y9, X26.
-/
import Derived.Test.YtodpkfillohplaaDoorX25
set_option linter.all false
namespace Go.Abs
set_option maxRecDepth 10000
def rowP (t : Bool) (hk j : Nat) (k : Int) (x : Nat) : Bool := betX t j (2 ^ hk - 1) x hk && (decide (k = -1) || decide (((keyN x : Nat) : Int) = k))
theorem full_bit {hk q : Nat} (h : q < hk) : (2 ^ hk - 1).testBit q = true := by
 rw [Nat.testBit_two_pow_sub_one, decide_eq_true h]
theorem key_split {x hk k : Nat} (h24 : hk ≤ 24) (hx : x < 2 ^ hk) : (((keyN x : Nat) : Int) = (k : Int)) ↔ (((bitsN x hk : Nat) : Int) = ((k % 100 : Nat) : Int) ∧ ((sumB x hk : Nat) : Int) = ((k / 100 : Nat) : Int)) := by
 unfold keyN;rw [bitsN_top hx h24, sumB_top hx h24];have h1 := bitsN_le x hk;generalize bitsN x hk = a at *;generalize sumB x hk = b at *;constructor
 ·intro h; omega
 ·intro h; omega
theorem rowP_sel {t : Bool} {hk j k x : Nat} (h24 : hk ≤ 24) (hx : x < 2 ^ hk) : rowP t hk j (k : Int) x = selA t j (2 ^ hk - 1) hk ((k % 100 : Nat) : Int) ((k / 100 : Nat) : Int) x := by
 unfold rowP selA
 congr 1
 have e1 : decide ((k : Int) = -1) = false := decide_eq_false (by omega)
 rw [e1, Bool.false_or, ← Bool.decide_and];exact decide_eq_decide.2 (key_split h24 hx)
theorem rowP_len {t : Bool} {hk j k : Nat} (h24 : hk ≤ 24) : ((List.range (2 ^ hk)).filter (rowP t hk j (k : Int))).length = cZ (freeN hk j) 24 (nL t j hk ((k % 100 : Nat) : Int)) (sL t j hk ((k / 100 : Nat) : Int)) := by
 rw [filter_len_congr (fun x hx => rowP_sel h24 (List.mem_range.1 hx))]
 rw [selA_count t j (2 ^ hk - 1) (freeN hk j) hk (fun q hq => ⟨by rw [freeN_bit hq, full_bit hq, Bool.true_and], fun _ => full_bit hq⟩)]
 exact (cZ_top (freeN_lt hk j) h24 _ _).symm
theorem wo_len {t : Bool} {hk j k q : Nat} (h24 : hk ≤ 24) (hq : q < hk) (hj : j.testBit q = false) : ((List.range (2 ^ hk)).filter fun x => rowP t hk j (k : Int) x && !(x.testBit q ^^ t)).length = woN hk j (nL t j hk ((k % 100 : Nat) : Int)) (sL t j hk ((k / 100 : Nat) : Int)) q := by
 have hb : ∀ p, p < hk → (subN (2 ^ hk - 1) (2 ^ q)).testBit p = !decide (q = p) := fun p hp => by
  rw [subN_bit, full_bit hp, Nat.testBit_two_pow, Bool.true_and]
 rw [filter_len_congr (q := selA t j (subN (2 ^ hk - 1) (2 ^ q)) hk ((k % 100 : Nat) : Int) ((k / 100 : Nat) : Int)) (fun x hx => ?_)]
 ·rw [selA_count t j (subN (2 ^ hk - 1) (2 ^ q)) (subN (freeN hk j) (2 ^ q)) hk (fun p hp => ⟨by
   rw [hb p hp, subN_bit, freeN_bit hp, Nat.testBit_two_pow, Bool.and_comm], fun h => by
   rw [hb p hp];by_cases e : q = p
   ·subst e; rw [hj] at h; cases h
   ·rw [decide_eq_false e]; rfl⟩)]
  unfold woN;exact (cZ_top (subN_lt (freeN_lt hk j)) h24 _ _).symm
 ·rw [rowP_sel h24 (List.mem_range.1 hx)]
  unfold selA;have e : betX t j (subN (2 ^ hk - 1) (2 ^ q)) x hk = (betX t j (2 ^ hk - 1) x hk && !(x.testBit q ^^ t)) := by
   apply Bool.eq_iff_iff.2;rw [Bool.and_eq_true, betX_iff, betX_iff];constructor
   ·intro h
    refine ⟨fun p hp => ⟨(h p hp).1, fun _ => full_bit hp⟩, ?_⟩
    cases hx : (x.testBit q ^^ t)
    ·rfl
    ·have := (h q hq).2 hx
     rw [hb q hq, decide_eq_true rfl] at this;cases this
   ·rintro ⟨h1, h2⟩ p hp
    refine ⟨(h1 p hp).1, fun h3 => ?_⟩
    rw [hb p hp];by_cases e : q = p
    ·subst e; rw [h3] at h2; cases h2
    ·rw [decide_eq_false e]; rfl
  rw [e];cases betX t j (2 ^ hk - 1) x hk <;> cases (!(x.testBit q ^^ t)) <;> simp
theorem cardC_bit {f m : Nat} {wo : Nat → Nat} {j : Nat} (p : Nat) : ∀ q, (cardC f m wo j q).testBit p = (j.testBit p || decide (p < q ∧ f.testBit p = true ∧ wo p < m))
 | 0 => by simp [cardC]
 | q + 1 => by
  have ih := cardC_bit (f := f) (m := m) (wo := wo) (j := j) p q;unfold cardC;by_cases h : f.testBit q = true ∧ wo q < m
  ·rw [if_pos h, Nat.testBit_or, ih, Nat.testBit_two_pow, Bool.or_assoc, ← Bool.decide_or]
   congr 1
   apply decide_eq_decide.2;constructor
   ·rintro (h1 | h1)
    ·exact ⟨by omega, h1.2⟩
    ·subst h1; exact ⟨by omega, h⟩
   ·rintro ⟨h1, h2⟩
    by_cases e : q = p
    ·exact .inr e
    ·exact .inl ⟨by omega, h2⟩
  ·rw [if_neg h, ih]
   congr 1
   apply decide_eq_decide.2;constructor
   ·rintro ⟨h1, h2⟩; exact ⟨by omega, h2⟩
   ·rintro ⟨h1, h2⟩
    refine ⟨?_, h2⟩;by_cases e : p = q
    ·subst e; exact absurd h2 h
    ·omega
theorem cardS_bit {f : Nat} {wo : Nat → Nat} {j : Nat} (p : Nat) : ∀ q, (cardS f wo j q).testBit p = (j.testBit p || decide (p < q ∧ f.testBit p = true ∧ wo p = 0))
 | 0 => by simp [cardS]
 | q + 1 => by
  have ih := cardS_bit (f := f) (wo := wo) (j := j) p q;unfold cardS;by_cases h : f.testBit q = true ∧ wo q = 0
  ·rw [if_pos h, Nat.testBit_or, ih, Nat.testBit_two_pow, Bool.or_assoc, ← Bool.decide_or]
   congr 1
   apply decide_eq_decide.2;constructor
   ·rintro (h1 | h1)
    ·exact ⟨by omega, h1.2⟩
    ·subst h1; exact ⟨by omega, h⟩
   ·rintro ⟨h1, h2⟩
    by_cases e : q = p
    ·exact .inr e
    ·exact .inl ⟨by omega, h2⟩
  ·rw [if_neg h, ih]
   congr 1
   apply decide_eq_decide.2;constructor
   ·rintro ⟨h1, h2⟩; exact ⟨by omega, h2⟩
   ·rintro ⟨h1, h2⟩
    refine ⟨?_, h2⟩;by_cases e : p = q
    ·subst e; exact absurd h2 h
    ·omega
def rowsT (t : Bool) (hk j : Nat) (k : Int) : List Nat := (List.range (2 ^ hk)).filter (rowP t hk j k)
structure CardOk (t : Bool) (hk j : Nat) (k : Int) (sure can many : Nat) : Prop where
 s : sure < 2 ^ hk
 c : can < 2 ^ hk
 m : many = (rowsT t hk j k).length
 b : rowsT t hk j k ≠ [] → ∀ q, q < hk → (sure.testBit q = (rowsT t hk j k).all fun x => x.testBit q ^^ t) ∧ can.testBit q = (rowsT t hk j k).any fun x => x.testBit q ^^ t
theorem rowP_bet {t : Bool} {hk j x : Nat} {k : Int} (h : x ∈ rowsT t hk j k) : betX t j (2 ^ hk - 1) x hk = true := by
 have := (List.mem_filter.1 h).2;unfold rowP at this;rw [Bool.and_eq_true] at this;exact this.1
theorem card_is (t : Bool) (hk k j : Nat) (h24 : hk ≤ 24) (hj : j < 2 ^ hk) : CardOk t hk j (k : Int) (cardS (freeN hk j) (woN hk j (nL t j hk ((k % 100 : Nat) : Int)) (sL t j hk ((k / 100 : Nat) : Int))) j hk) (cardC (freeN hk j) (cZ (freeN hk j) 24 (nL t j hk ((k % 100 : Nat) : Int)) (sL t j hk ((k / 100 : Nat) : Int))) (woN hk j (nL t j hk ((k % 100 : Nat) : Int)) (sL t j hk ((k / 100 : Nat) : Int))) j hk) (cZ (freeN hk j) 24 (nL t j hk ((k % 100 : Nat) : Int)) (sL t j hk ((k / 100 : Nat) : Int))) where
 s := cardS_lt hj hk (Nat.le_refl _)
 c := cardC_lt hj hk (Nat.le_refl _)
 m := (rowP_len h24).symm
 b := by
  intro hne q hq;rw [cardS_bit, cardC_bit, freeN_bit hq];cases hjq : j.testBit q
  ·have hw := wo_len (t := t) (k := k) h24 hq hjq
   have hm := rowP_len (t := t) (hk := hk) (j := j) (k := k) h24;rw [← hm, ← hw];have e : ((List.range (2 ^ hk)).filter fun x => rowP t hk j (k : Int) x && !(x.testBit q ^^ t)) = (rowsT t hk j (k : Int)).filter fun x => !(x.testBit q ^^ t) := by
    unfold rowsT;rw [List.filter_filter]
    congr 1
    funext x;rw [Bool.and_comm]
   rw [e];change _ ∧ (false || decide (q < hk ∧ (!false) = true ∧ _ < (rowsT t hk j (k : Int)).length)) = _
   generalize rowsT t hk j (k : Int) = T at *;simp only [Bool.false_or, Bool.not_false, hq, true_and];constructor
   ·apply Bool.eq_iff_iff.2
    rw [decide_eq_true_eq, List.all_eq_true, List.length_eq_zero_iff, List.filter_eq_nil_iff];constructor
    ·intro h x hx
     have := h x hx;simpa using this
    ·intro h x hx
     rw [h x hx]; simp
   ·apply Bool.eq_iff_iff.2
    rw [decide_eq_true_eq, List.any_eq_true, List.length_filter_lt_length_iff_exists];constructor
    ·rintro ⟨x, hx, h⟩
     exact ⟨x, hx, by simpa using h⟩
    ·rintro ⟨x, hx, h⟩
     exact ⟨x, hx, by rw [h]; simp⟩
  ·have hall : ∀ x ∈ rowsT t hk j (k : Int), (x.testBit q ^^ t) = true := fun x hx => (betX_iff.1 (rowP_bet hx) q hq).1 hjq
   rw [Bool.true_or, Bool.true_or];refine ⟨(List.all_eq_true.2 hall).symm, ?_⟩;obtain ⟨x, hx⟩ := List.exists_mem_of_ne_nil _ hne;exact (List.any_eq_true.2 ⟨x, hx, hall x hx⟩).symm
theorem bet_low {t : Bool} {j a p x : Nat} (hx : x < 2 ^ p) : betX t j a x (p + 1) = ((!j.testBit p || t) && (!t || a.testBit p) && betX t j a x p) := by
 have hb : x.testBit p = false := Nat.testBit_lt_two_pow hx;rw [betX_succ, hb];simp only [Bool.false_xor];cases betX t j a x p <;> cases (!j.testBit p || t) <;> cases (!t || a.testBit p) <;> rfl
theorem bet_high {t : Bool} {j a p x : Nat} (hx : x < 2 ^ p) : betX t j a (2 ^ p + x) (p + 1) = ((!j.testBit p || !t) && (t || a.testBit p) && betX t j a x p) := by
 have hb : (2 ^ p + x).testBit p = true := by
  rw [Nat.testBit_two_pow_add_eq, Nat.testBit_lt_two_pow hx]; rfl
 have c3 := betX_congr (t := t) (j := j) (a := a) (x := 2 ^ p + x) (y := x) (p := p) fun j hj => Nat.testBit_two_pow_add_gt hj x
 rw [betX_succ, hb, c3];simp only [Bool.true_xor, Bool.not_not];cases betX t j a x p <;> cases (!j.testBit p || !t) <;> cases (t || a.testBit p) <;> rfl
theorem bet_count (t : Bool) (j a : Nat) : ∀ p, (∀ q, q < p → a.testBit q = true) → ((List.range (2 ^ p)).filter fun x => betX t j a x p).length = 2 ^ bitsN (subN a j) p
 | 0, _ => by simp [betX, bitsN]
 | p + 1, ha => by
  have ih := bet_count t j a p fun q hq => ha q (by omega)
  have hap := ha p (by omega)
  rw [range_two, List.filter_append, List.length_append, List.filter_map, List.length_map];rw [filter_len_congr (q := fun x => (!j.testBit p || t) && (!t || a.testBit p) && betX t j a x p) (fun x hx => bet_low (List.mem_range.1 hx))]
  rw [filter_len_congr (p := (fun x => betX t j a x (p + 1)) ∘ (2 ^ p + ·)) (q := fun x => (!j.testBit p || !t) && (t || a.testBit p) && betX t j a x p) (fun x hx => bet_high (List.mem_range.1 hx))]
  rw [bitsN_succ, subN_bit, hap];cases hj : j.testBit p <;> cases t <;> simp only [Bool.not_false, Bool.true_or, Bool.not_true, Bool.true_and, Bool.false_or, Bool.and_false, Bool.false_and, Bool.or_false, Bool.or_true, Bool.and_true, Bool.toNat_true, Bool.toNat_false, Nat.add_zero, filt_none, Nat.zero_add] <;> rw [ih] <;> (try rw [Nat.pow_succ]) <;> omega
theorem numT_mem (t : Bool) (hk j : Nat) (g : Nat → Bool) (hg : ∀ q, q < hk → j.testBit q = true → g q = true) : rowTo (fun q => g q ^^ t) hk ∈ rowsT t hk j (-1) ∧ ∀ q, q < hk → ((rowTo (fun q => g q ^^ t) hk).testBit q ^^ t) = g q := by
 have hb : ∀ q, q < hk → ((rowTo (fun q => g q ^^ t) hk).testBit q ^^ t) = g q := fun q hq => by
  rw [rowTo_bit, decide_eq_true hq, Bool.true_and, Bool.xor_assoc, Bool.xor_self, Bool.xor_false]
 refine ⟨List.mem_filter.2 ⟨List.mem_range.2 (rowTo_lt _ _), ?_⟩, hb⟩;unfold rowP;rw [Bool.and_eq_true];refine ⟨betX_iff.2 fun q hq => ⟨fun h => by rw [hb q hq]; exact hg q hq h, fun _ => full_bit hq⟩, rfl⟩
theorem blot_is (t : Bool) (hk j : Nat) (h24 : hk ≤ 24) (hj : j < 2 ^ hk) : CardOk t hk j (-1) j (j ||| freeN hk j) (2 ^ bitsN (freeN hk j) 24) where
 s := hj
 c := Nat.or_lt_two_pow hj (freeN_lt hk j)
 m := by
  have e : rowsT t hk j (-1) = (List.range (2 ^ hk)).filter fun x => betX t j (2 ^ hk - 1) x hk := by
   unfold rowsT
   congr 1
   funext x;unfold rowP;simp
  rw [e, bet_count t j (2 ^ hk - 1) hk (fun q hq => full_bit hq)]
  have : bitsN (freeN hk j) 24 = bitsN (freeN hk j) hk := bitsN_top (freeN_lt hk j) h24;rw [this];rfl
 b := by
  intro _ q hq;rw [Nat.testBit_or, freeN_bit hq];obtain ⟨m1, b1⟩ := numT_mem t hk j (fun q => j.testBit q) fun q _ h => h
  obtain ⟨m2, b2⟩ := numT_mem t hk j (fun _ => true) fun q _ _ => rfl
  constructor
  ·cases hjq : j.testBit q
   ·symm
    rw [List.all_eq_false];refine ⟨_, m1, ?_⟩;rw [b1 q hq, hjq];simp
   ·exact (List.all_eq_true.2 fun x hx => (betX_iff.1 (rowP_bet hx) q hq).1 hjq).symm
  ·rw [show (j.testBit q || !j.testBit q) = true by cases j.testBit q <;> rfl]
   exact (List.any_eq_true.2 ⟨_, m2, b2 q hq⟩).symm
end Go.Abs
set_option linter.all false
namespace Go.Abs
set_option maxRecDepth 10000
set_option maxHeartbeats 4000000
def prodM (M : Nat → Nat) : Nat → Nat
 | 0 => 1
 | i + 1 => prodM M i * M i
end Go.Abs
