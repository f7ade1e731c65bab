/-
 Designs twice, beside or above themselves, and point repeats: plain Lean, no program in sight.
-/
import Derived.Test.YtkjlmfabhejbnaaM9a
import Derived.Test.YtkjlmfabhejbnaaV3
set_option linter.all false
namespace Go.Abs
set_option maxRecDepth 10000

/-! ### Rings twice -/
theorem gb_twice (l : List Bool) (i : Nat) : gb (l ++ l) i = gb l i := by
 rcases Nat.eq_zero_or_pos l.length with h0 | h0
 ·rw [List.length_eq_zero_iff.1 h0]; rfl
 ·have hm : (i % (l.length + l.length)) % l.length = i % l.length := Nat.mod_mod_of_dvd _ ⟨2, by omega⟩
  have hlt := Nat.mod_lt i (show 0 < l.length + l.length by omega)
  unfold gb
  rw [List.length_append, List.getD_eq_getElem?_getD, List.getD_eq_getElem?_getD, ← hm]
  generalize i % (l.length + l.length) = j at *
  rw [List.getElem?_append]
  by_cases h : j < l.length
  ·rw [if_pos h, Nat.mod_eq_of_lt h]
  ·rw [if_neg h, Nat.mod_eq_sub_mod (by omega), Nat.mod_eq_of_lt (by omega)]
theorem begs_twice (l : List Bool) (i : Nat) : begs (l ++ l) i = begs l i := by
 rcases Nat.eq_zero_or_pos l.length with h0 | h0
 ·rw [List.length_eq_zero_iff.1 h0]; rfl
 ·unfold begs
  rw [gb_twice, gb_twice, List.length_append, show i + (l.length + l.length) - 1 = i + l.length - 1 + l.length by omega, gb_add]
theorem len_twice {l : List Bool} {i : Nat} (h : begs l i = true) : lenT (l ++ l) i = lenT l i := by
 have h1 := lenT_is h
 have h2 := lenT_is (l := l ++ l) (i := i) (by rw [begs_twice]; exact h)
 refine h2.eq ⟨h1.pos, by have := h1.lt; rw [List.length_append]; omega, fun k hk => ?_, ?_⟩
 ·rw [gb_twice, gb_twice]; exact h1.same k hk
 ·rw [gb_twice, gb_twice]; exact h1.other
theorem any_twice (l : List Bool) : anyTo (l ++ l) (l ++ l).length = anyTo l l.length := by
 unfold anyTo
 rw [Bool.eq_iff_iff, List.any_eq_true, List.any_eq_true, List.length_append]
 constructor
 ·rintro ⟨i, hi, hb⟩
  have hi := List.mem_range.1 hi
  exact ⟨i % l.length, List.mem_range.2 (Nat.mod_lt _ (by omega)), by rw [begs_mod, ← begs_twice]; exact hb⟩
 ·rintro ⟨i, hi, hb⟩
  have hi := List.mem_range.1 hi
  exact ⟨i, List.mem_range.2 (by omega), by rw [begs_twice]; exact hb⟩
theorem same_twice (l : List Bool) : SameRuns l (l ++ l) := fun x hx => by
 rcases runsT_mem.1 hx with ⟨i, hi, hb, rfl⟩ | ⟨ha, rfl⟩
 ·exact ⟨runAt (l ++ l) i, runsT_mem.2 (.inl ⟨i, by rw [List.length_append]; omega, by rw [begs_twice]; exact hb, rfl⟩), gb_twice l i, len_twice hb⟩
 ·exact ⟨⟨0, 1000, gb (l ++ l) 0⟩, runsT_mem.2 (.inr ⟨by rw [any_twice]; exact ha, rfl⟩), gb_twice l 0, rfl⟩
theorem twice_same (l : List Bool) : SameRuns (l ++ l) l := fun x hx => by
 rcases runsT_mem.1 hx with ⟨i, hi, hb, rfl⟩ | ⟨ha, rfl⟩
 ·rw [begs_twice] at hb
  rw [List.length_append] at hi
  have hb' : begs l (i % l.length) = true := by rw [begs_mod]; exact hb
  refine ⟨runAt l (i % l.length), runsT_mem.2 (.inl ⟨_, Nat.mod_lt _ (by omega), hb', rfl⟩), ?_, ?_⟩
  ·show gb l (i % l.length) = gb (l ++ l) i
   rw [gb_mod, gb_twice]
  ·show lenT l (i % l.length) = lenT (l ++ l) i
   rw [len_twice hb]
   exact (lenT_is hb').eq (lenT_is hb).mod
 ·exact ⟨⟨0, 1000, gb l 0⟩, runsT_mem.2 (.inr ⟨by rw [← any_twice]; exact ha, rfl⟩), (gb_twice l 0).symm, rfl⟩

/-! ### Periods -/
theorem per_mul {α : Type} {f : Nat → α} {k : Nat} (h : ∀ i, f (i + k) = f i) (m i : Nat) : f (i + k * m) = f i := by
 induction m with
 | zero => rfl
 | succ m ih => rw [Nat.mul_succ, ← Nat.add_assoc, h, ih]
theorem per_mod {α : Type} {f : Nat → α} {k : Nat} (h : ∀ i, f (i + k) = f i) (i : Nat) : f (i % k) = f i := by
 have := per_mul h (i / k) (i % k)
 rw [Nat.mod_add_div] at this
 exact this.symm
theorem per_gcd {α : Type} {f : Nat → α} (a b : Nat) : (∀ i, f (i + a) = f i) → (∀ i, f (i + b) = f i) → ∀ i, f (i + Nat.gcd a b) = f i := by
 induction a, b using Nat.gcd.induction with
 | H0 b =>
  intro _ hb
  rw [Nat.gcd_zero_left]; exact hb
 | H1 a b h0 ih =>
  intro ha hb
  rw [Nat.gcd_rec]
  refine ih (fun i => ?_) ha
  have h1 := per_mul ha (b / a) (i + b % a)
  rw [Nat.add_assoc, Nat.mod_add_div, hb] at h1
  exact h1.symm
theorem whole_iff {R : Nat → List Bool} {n k : Nat} (h0 : 0 < n) (hk : 1 ≤ k) (hn : n % k = 0) : wholeR R n k = true ↔ ∀ i, (fun i => R (i % n)) (i + k) = (fun i => R (i % n)) i := by
 rw [wholeR_iff]
 constructor
 ·intro h i
  try dsimp only
  have h1 := h ((i + k) % n) (Nat.mod_lt _ h0)
  have h2 := h (i % n) (Nat.mod_lt _ h0)
  rw [h1, h2]
  rw [Nat.mod_mod_of_dvd _ (Nat.dvd_of_mod_eq_zero hn), Nat.mod_mod_of_dvd _ (Nat.dvd_of_mod_eq_zero hn), Nat.add_mod_right]
 ·intro h i hi
  have h1 := per_mod (f := fun i => R (i % n)) h i
  try dsimp only at h1
  have h2 : i % k < n := by have := Nat.mod_le i k; omega
  rw [Nat.mod_eq_of_lt h2, Nat.mod_eq_of_lt hi] at h1
  exact h1.symm
theorem perT_is {n : Nat} {P : Nat → Bool} (h1 : 1 ≤ n) (hP : P n = true) : perAt n P (perT n P) = true ∧ ∀ k, k < perT n P → perAt n P k = false := by
 unfold perT
 cases hf : (List.range n).find? (perAt n P) with
 | none =>
  rw [List.find?_eq_none] at hf
  refine ⟨?_, fun k hk => ?_⟩
  ·unfold perAt
   simp [hP, h1]
  ·have := hf k (List.mem_range.2 hk)
   simpa using this
 | some m =>
  have h2 := List.find?_some hf
  rw [List.find?_eq_some_iff_getElem] at hf
  obtain ⟨_, i, hi, he, hj⟩ := hf
  simp only [List.getElem_range] at he
  subst he
  refine ⟨h2, fun k hk => ?_⟩
  have := hj k hk
  simpa using this
/-- twice as many, the same period -/
theorem perT_twice {R R' : Nat → List Bool} {n : Nat} (h1 : 1 ≤ n) (hR : ∀ i, i < n + n → R' i = R (i % n)) : perT (n + n) (wholeR R' (n + n)) = perT n (wholeR R n) := by
 obtain ⟨a1, a2⟩ := perT_is (n := n) (P := wholeR R n) h1 (whole_self R n)
 obtain ⟨b1, b2⟩ := perT_is (n := n + n) (P := wholeR R' (n + n)) (by omega) (whole_self R' (n + n))
 generalize perT n (wholeR R n) = p at *
 generalize perT (n + n) (wholeR R' (n + n)) = q at *
 have hf : (fun i => R' (i % (n + n))) = fun i => R (i % n) := by
  funext i
  rw [hR _ (Nat.mod_lt _ (by omega)), Nat.mod_mod_of_dvd _ ⟨2, by omega⟩]
 unfold perAt at a1 b1
 simp only [Bool.and_eq_true, decide_eq_true_eq] at a1 b1
 obtain ⟨⟨p1, p2⟩, p3⟩ := a1
 obtain ⟨⟨q1, q2⟩, q3⟩ := b1
 rw [whole_iff (by omega) p1 p2] at p3
 rw [whole_iff (by omega) q1 q2, hf] at q3
 -- p is a period of the whole: so q is not greater
 have hpd := Nat.dvd_of_mod_eq_zero p2
 have hqp : q ≤ p := Nat.le_of_not_lt fun hlt => by
  have := b2 p hlt
  unfold perAt at this
  have h3 : wholeR R' (n + n) p = true := by rw [whole_iff (by omega) p1 (Nat.mod_eq_zero_of_dvd (Nat.dvd_add hpd hpd)), hf]; exact p3
  rw [decide_eq_true p1, decide_eq_true (Nat.mod_eq_zero_of_dvd (Nat.dvd_add hpd hpd)), h3] at this
  cases this
 -- the greatest common divisor of q and n is a period
 have hn : ∀ i, (fun i => R (i % n)) (i + n) = (fun i => R (i % n)) i := fun i => by
  dsimp only
  rw [Nat.add_mod_right]
 have hg := per_gcd (f := fun i => R (i % n)) q n q3 hn
 have g1 : 1 ≤ Nat.gcd q n := Nat.gcd_pos_of_pos_right _ h1
 have g2 : n % Nat.gcd q n = 0 := Nat.mod_eq_zero_of_dvd (Nat.gcd_dvd_right q n)
 have hgq : Nat.gcd q n ≤ q := Nat.le_of_dvd q1 (Nat.gcd_dvd_left q n)
 rw [← whole_iff (by omega) g1 g2] at hg
 have hpg : p ≤ Nat.gcd q n := Nat.le_of_not_lt fun hlt => by
  have := a2 _ hlt
  unfold perAt at this
  rw [decide_eq_true g1, decide_eq_true g2, hg] at this
  cases this
 omega

/-! ### Designs twice -/
theorem bes_pick {d : DesN} (hd : d.Ok) {i : Nat} (hi : i < d.rows.length) : pickR (besideN d d) i = pickR d i ++ pickR d i := by
 have hr : (besideN d d).rows.getD i 0 = d.rows.getD i 0 ||| d.rows.getD i 0 * 2 ^ d.hk := by
  unfold besideN
  rw [List.getD_eq_getElem?_getD, List.getElem?_map, List.getElem?_range hi]; rfl
 apply List.ext_getElem
 ·rw [pickR_len, List.length_append, pickR_len]; rfl
 ·intro j h1 h2
  rw [pickR_len] at h1
  have h1' : j < d.hk + d.hk := h1
  rw [pickR_get h1, hr, beside_bit hd hi, List.getElem_append]
  by_cases h : j < d.hk
  ·rw [if_pos h, dif_pos (by rw [pickR_len]; exact h), pickR_get h]
  ·rw [if_neg h, dif_neg (by rw [pickR_len]; exact h)]
   rw [pickR_get (by rw [pickR_len]; omega)]
   rw [pickR_len]
theorem bes_hook {d : DesN} (hd : d.Ok) {h : Nat} (hh : h < d.hk + d.hk) : hookR (besideN d d) h = hookR d (h % d.hk) := by
 have h0 := hd.h1
 have hm := Nat.mod_lt h (show 0 < d.hk by omega)
 have hlen : (besideN d d).rows.length = d.rows.length := by simp [besideN]
 apply List.ext_getElem
 ·rw [hookR_len, hookR_len, hlen]
 ·intro i h1 h2
  rw [hookR_len, hlen] at h1
  have hr : (besideN d d).rows.getD i 0 = d.rows.getD i 0 ||| d.rows.getD i 0 * 2 ^ d.hk := by
   unfold besideN
   rw [List.getD_eq_getElem?_getD, List.getElem?_map, List.getElem?_range h1]; rfl
  rw [hookR_get (by rw [hlen]; exact h1), hookR_get h1, hr, beside_bit hd h1]
  by_cases h : h < d.hk
  ·rw [if_pos h, Nat.mod_eq_of_lt h]
  ·rw [if_neg h, Nat.mod_eq_sub_mod (by omega), Nat.mod_eq_of_lt (by omega)]
theorem abo_row {d : DesN} {i : Nat} (hi : i < d.rows.length + d.rows.length) : (d.rows ++ d.rows).getD i 0 = d.rows.getD (i % d.rows.length) 0 := by
 rw [List.getD_eq_getElem?_getD, List.getD_eq_getElem?_getD, List.getElem?_append]
 by_cases h : i < d.rows.length
 ·rw [if_pos h, Nat.mod_eq_of_lt h]
 ·rw [if_neg h, Nat.mod_eq_sub_mod (by omega), Nat.mod_eq_of_lt (by omega)]
theorem abo_pick {d : DesN} {i : Nat} (hi : i < d.rows.length + d.rows.length) : pickR (aboveN d d) i = pickR d (i % d.rows.length) := by
 unfold pickR aboveN
 dsimp only
 rw [abo_row hi]
theorem abo_hook (d : DesN) (h : Nat) : hookR (aboveN d d) h = hookR d h ++ hookR d h := by
 unfold hookR aboveN
 rw [List.map_append]
theorem bes_len (d : DesN) : (besideN d d).rows.length = d.rows.length := by simp [besideN]
theorem abo_len (d : DesN) : (aboveN d d).rows.length = d.rows.length + d.rows.length := by simp [aboveN]
theorem bes_like {d : DesN} (hd : d.Ok) (hh : d.hk + d.hk ≤ 24) : LikeD d (besideN d d) where
 ok := hd
 ok' := besideN_ok hd hd rfl hh
 w := fun i hi => ⟨i, by rw [bes_len]; exact hi, by rw [bes_pick hd hi]; exact same_twice _⟩
 w' := fun i hi => by
  rw [bes_len] at hi
  exact ⟨i, hi, by rw [bes_pick hd hi]; exact twice_same _⟩
 h := fun i hi => ⟨i, by show i < d.hk + d.hk; omega, by rw [bes_hook hd (by omega), Nat.mod_eq_of_lt hi]; exact same_refl _⟩
 h' := fun i hi => by
  have hi : i < d.hk + d.hk := hi
  exact ⟨i % d.hk, Nat.mod_lt _ (by omega), by rw [bes_hook hd hi]; exact same_refl _⟩
theorem abo_like {d : DesN} (hd : d.Ok) (hr : d.rows.length + d.rows.length ≤ 60) : LikeD d (aboveN d d) where
 ok := hd
 ok' := aboveN_ok hd hd rfl hr
 w := fun i hi => ⟨i, by rw [abo_len]; omega, by rw [abo_pick (by omega), Nat.mod_eq_of_lt hi]; exact same_refl _⟩
 w' := fun i hi => by
  rw [abo_len] at hi
  exact ⟨i % d.rows.length, Nat.mod_lt _ (by omega), by rw [abo_pick hi]; exact same_refl _⟩
 h := fun i hi => ⟨i, hi, by rw [abo_hook]; exact same_twice _⟩
 h' := fun i hi => ⟨i, hi, by rw [abo_hook]; exact twice_same _⟩
theorem twice_inj {l l' : List Bool} (hl : l.length = l'.length) : l ++ l = l' ++ l' ↔ l = l' := by
 constructor
 ·intro h
  exact (List.append_inj h hl).1
 ·rintro rfl; rfl
theorem whole_twice {R R' : Nat → List Bool} {n k m : Nat} (hl : ∀ i, i < n → (R i).length = m) (hR : ∀ i, i < n → R' i = R i ++ R i) (hk : 1 ≤ k) : wholeR R' n k = wholeR R n k := by
 rw [Bool.eq_iff_iff, wholeR_iff, wholeR_iff]
 have key : ∀ i, i < n → (R' i = R' (i % k) ↔ R i = R (i % k)) := fun i hi => by
  have h3 : i % k < n := by have := Nat.mod_le i k; omega
  rw [hR i hi, hR _ h3, twice_inj (by rw [hl i hi, hl _ h3])]
 exact ⟨fun h i hi => (key i hi).1 (h i hi), fun h i hi => (key i hi).2 (h i hi)⟩
theorem bes_leastP {d : DesN} (hd : d.Ok) (hh : d.hk + d.hk ≤ 24) : leastP (besideN d d) = leastP d := by
 rw [leastP_eq hd, leastP_eq (besideN_ok hd hd rfl hh), bes_len]
 exact perT_congr fun k h1 _ _ => whole_twice (m := d.hk) (fun i _ => pickR_len d i) (fun i hi => bes_pick hd hi) h1
theorem bes_leastH {d : DesN} (hd : d.Ok) (hh : d.hk + d.hk ≤ 24) : leastH (besideN d d) = leastH d := by
 rw [leastH_eq hd, leastH_eq (besideN_ok hd hd rfl hh)]
 exact perT_twice hd.h1 fun i hi => bes_hook hd hi
theorem abo_leastP {d : DesN} (hd : d.Ok) (hr : d.rows.length + d.rows.length ≤ 60) : leastP (aboveN d d) = leastP d := by
 rw [leastP_eq hd, leastP_eq (aboveN_ok hd hd rfl hr), abo_len]
 exact perT_twice hd.r1 fun i hi => abo_pick hi
theorem abo_leastH {d : DesN} (hd : d.Ok) (hr : d.rows.length + d.rows.length ≤ 60) : leastH (aboveN d d) = leastH d := by
 rw [leastH_eq hd, leastH_eq (aboveN_ok hd hd rfl hr)]
 exact perT_congr fun k h1 _ _ => whole_twice (m := d.rows.length) (fun i _ => hookR_len d i) (fun i _ => abo_hook d i) h1

/-! ### The least part -/
theorem least_facts {d : DesN} (hd : d.Ok) : (1 ≤ leastP d ∧ leastP d ≤ d.rows.length ∧ d.rows.length % leastP d = 0) ∧ (1 ≤ leastH d ∧ leastH d ≤ d.hk ∧ d.hk % leastH d = 0) ∧
  ∀ i j, i < d.rows.length → j < d.hk → atN d i j = atN d (i % leastP d) (j % leastH d) := by
 have hr := hd.r1
 have hh := hd.h1
 obtain ⟨a1, _⟩ := perT_is (n := d.rows.length) (P := wholeR (pickR d) d.rows.length) hr (whole_self _ _)
 obtain ⟨b1, _⟩ := perT_is (n := d.hk) (P := wholeR (hookR d) d.hk) hh (whole_self _ _)
 have a2 := perT_in (n := d.rows.length) (P := wholeR (pickR d) d.rows.length) hr
 have b2 := perT_in (n := d.hk) (P := wholeR (hookR d) d.hk) hh
 rw [← leastP_eq hd] at a1 a2
 rw [← leastH_eq hd] at b1 b2
 unfold perAt at a1 b1
 simp only [Bool.and_eq_true, decide_eq_true_eq] at a1 b1
 refine ⟨⟨a1.1.1, a2.2, a1.1.2⟩, ⟨b1.1.1, b2.2, b1.1.2⟩, fun i j hi hj => ?_⟩
 have e1 := wholeR_iff.1 a1.2 i hi
 have e2 := wholeR_iff.1 b1.2 j hj
 have hi' : i % leastP d < d.rows.length := by have := Nat.mod_le i (leastP d); omega
 have hj' : j % leastH d < d.hk := by have := Nat.mod_le j (leastH d); omega
 rw [← atN_pick hd hi, e1, atN_pick hd hi', ← atN_hook hd hj, e2, atN_hook hd hj']

/-! ### Point repeats -/
theorem refl_begin {d : DesN} (hd : d.Ok) {i : Nat} (hi : i < d.rows.length) : (reflectN d).rows.getD i 0 &&& (2 ^ d.hk - 1) = d.rows.getD i 0 := by
 have hlt : d.rows.getD i 0 < 2 ^ d.hk := by rw [rows_get hi]; exact hd.lt _ (List.getElem_mem hi)
 have hp : 0 < 2 ^ d.hk := Nat.pow_pos (by omega)
 have h1 := hd.h1
 refine row_eq (Nat.lt_of_le_of_lt Nat.and_le_right (by omega)) hlt fun j hj => ?_
 rw [Nat.testBit_and, Nat.testBit_two_pow_sub_one, decide_eq_true hj, Bool.and_true]
 have e : (reflectN d).rows.getD i 0 = rowTo (fun h => atN d i (min h (reflH d - h))) (reflH d) := by
  unfold reflectN madeN
  rw [List.getD_eq_getElem?_getD, List.getElem?_map, List.getElem?_range hi]; rfl
 rw [e, rowTo_bit]
 have hjr : j < reflH d := by unfold reflH; omega
 rw [decide_eq_true hjr, Bool.true_and]
 have em : min j (reflH d - j) = j := by unfold reflH at *; omega
 rw [em]
 unfold atN
 rw [Nat.mod_eq_of_lt hi, Nat.mod_eq_of_lt hj]
theorem refl_self {d : DesN} (hd : d.Ok) (hh : 1 < d.hk) (hH : reflH d ≤ 24) : shiftN (mirrorN (reflectN d)) 0 1 = reflectN d := by
 have hr := hd.r1
 have hlen : (reflectN d).rows.length = d.rows.length := by simp [reflectN, madeN]
 have hhk : (reflectN d).hk = reflH d := rfl
 have hH1 : 2 ≤ reflH d := by unfold reflH; omega
 have hl2 : (mirrorN (reflectN d)).rows.length = d.rows.length := by simp [mirrorN, madeN, hlen]
 have hk2 : (mirrorN (reflectN d)).hk = reflH d := rfl
 conv => rhs; unfold reflectN
 unfold shiftN
 rw [hl2, hk2]
 refine madeN_congr fun p h hp hh' => ?_
 unfold mirrorN
 rw [hlen, hhk, atN_made (by omega) (by omega)]
 unfold reflectN
 rw [atN_made (by omega) (by omega)]
 have e1 : (p + d.rows.length - 0) % d.rows.length % d.rows.length = p := by
  rw [Nat.sub_zero, Nat.add_mod_right, Nat.mod_mod, Nat.mod_eq_of_lt hp]
 have hm := Nat.mod_lt (h + reflH d - 1) (show 0 < reflH d by omega)
 rw [e1]
 congr 1
 have e2 : (reflH d - 1 - (h + reflH d - 1) % reflH d) % reflH d = (reflH d - h) % reflH d := by
  rcases Nat.eq_zero_or_pos h with h0 | h0
  ·subst h0
   rw [Nat.zero_add, Nat.mod_eq_of_lt (show reflH d - 1 < reflH d by omega), Nat.sub_self, Nat.zero_mod, Nat.sub_zero, Nat.mod_self]
  ·rw [show h + reflH d - 1 = h - 1 + reflH d by omega, Nat.add_mod_right, Nat.mod_eq_of_lt (show h - 1 < reflH d by omega)]
   congr 1; omega
 rw [e2]
 rcases Nat.eq_zero_or_pos h with h0 | h0
 ·subst h0
  rw [Nat.sub_zero, Nat.mod_self]; omega
 ·rw [Nat.mod_eq_of_lt (show reflH d - h < reflH d by omega)]; omega
end Go.Abs
