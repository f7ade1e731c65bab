/-
 Several texts: M19, M20, M22.
-/
import Derived.Test.YtkjlmfabhejbnaaDoorM1
set_option linter.all false
namespace Go.Abs
set_option maxRecDepth 10000
def bitsN (x n : Nat) : Nat := ((List.range n).filter x.testBit).length
theorem bitsN_add (x n m : Nat) : bitsN x (n + m) = bitsN x n + bitsN (x >>> n) m := by
 unfold bitsN;rw [List.range_add, List.filter_append, List.length_append, List.filter_map, List.length_map]
 congr 2
 apply List.filter_congr;intro i _;simp [Function.comp, Nat.testBit_shiftRight]
theorem bitsN_low (x n : Nat) : bitsN (x % 2 ^ n) n = bitsN x n := by
 unfold bitsN
 congr 1
 apply List.filter_congr;intro i hi;rw [Nat.testBit_mod_two_pow, decide_eq_true (List.mem_range.1 hi), Bool.true_and]
theorem and_cut (k x y : Nat) : x &&& y = ((x % 2 ^ k) &&& (y % 2 ^ k)) + 2 ^ k * ((x / 2 ^ k) &&& (y / 2 ^ k)) := by
 have h3 := Nat.mod_add_div (x &&& y) (2 ^ k);rw [Nat.and_mod_two_pow, Nat.and_div_two_pow] at h3;exact h3.symm
theorem and_cut4 (a b c d : Nat) (ha : a < 16) (hc : c < 16) : (a + 16 * b) &&& (c + 16 * d) = (a &&& c) + 16 * (b &&& d) := by
 rw [and_cut 4 (a + 16 * b) (c + 16 * d)];rw [show (a + 16 * b) % 2 ^ 4 = a by omega, show (c + 16 * d) % 2 ^ 4 = c by omega, show (a + 16 * b) / 2 ^ 4 = b by omega, show (c + 16 * d) / 2 ^ 4 = d by omega]
theorem and_cut8 (a b c d : Nat) (ha : a < 256) (hc : c < 256) : (a + 256 * b) &&& (c + 256 * d) = (a &&& c) + 256 * (b &&& d) := by
 rw [and_cut 8 (a + 256 * b) (c + 256 * d)];rw [show (a + 256 * b) % 2 ^ 8 = a by omega, show (c + 256 * d) % 2 ^ 8 = c by omega, show (a + 256 * b) / 2 ^ 8 = b by omega, show (c + 256 * d) / 2 ^ 8 = d by omega]
def nib (x : Nat) : Nat := bitsN x 4
def two (n : Nat) : Nat := ((n / 2) &&& 5) + (n &&& 5)
theorem nib_step : ∀ n, n < 16 → two n < 16 ∧ ((two n / 4) &&& 3) + (two n &&& 3) = nib n ∧ nib n ≤ 4 := by decide
theorem half5 : ∀ r, r < 32 → ((r / 2) % 16) &&& 5 = ((r % 16) / 2) &&& 5 := by decide
theorem half3 : ∀ r, r < 64 → ((r / 4) % 16) &&& 3 = ((r % 16) / 4) &&& 3 := by decide
def mk (m : Nat) : Nat → Nat
 | 0 => 0
 | n + 1 => m + 16 * mk m n
def fld (f : Nat → Nat) : Nat → Nat → Nat
 | 0, _ => 0
 | n + 1, x => f (x % 16) + 16 * fld f n (x / 16)
theorem step1 (n x : Nat) : ((x / 2) &&& mk 5 n) + (x &&& mk 5 n) = fld two n x := by
 induction n generalizing x with
 | zero => simp [mk, fld]
 | succ n ih =>
  have e1 : x &&& mk 5 (n + 1) = ((x % 16) &&& 5) + 16 * ((x / 16) &&& mk 5 n) := by
   rw [← and_cut4 (x % 16) (x / 16) 5 (mk 5 n) (Nat.mod_lt _ (by omega)) (by omega), Nat.mod_add_div]; rfl
  have e2 : (x / 2) &&& mk 5 (n + 1) = (((x % 16) / 2) &&& 5) + 16 * (((x / 16) / 2) &&& mk 5 n) := by
   have h := half5 (x % 32) (Nat.mod_lt _ (by omega))
   rw [show (x % 32) / 2 % 16 = x / 2 % 16 by omega, show x % 32 % 16 = x % 16 by omega] at h
   rw [← h, show x / 16 / 2 = x / 2 / 16 by omega, ← and_cut4 (x / 2 % 16) (x / 2 / 16) 5 (mk 5 n) (Nat.mod_lt _ (by omega)) (by omega), Nat.mod_add_div]; rfl
  have := ih (x / 16);rw [e1, e2];show _ = two (x % 16) + 16 * fld two n (x / 16)
  rw [← this];unfold two;omega
theorem step2 (n x : Nat) : ((fld two n x / 4) &&& mk 3 n) + (fld two n x &&& mk 3 n) = fld nib n x := by
 induction n generalizing x with
 | zero => simp [mk, fld]
 | succ n ih =>
  have hs := nib_step (x % 16) (Nat.mod_lt _ (by omega))
  have hi := ih (x / 16);show ((two (x % 16) + 16 * fld two n (x / 16)) / 4 &&& mk 3 (n + 1)) + ((two (x % 16) + 16 * fld two n (x / 16)) &&& mk 3 (n + 1)) = nib (x % 16) + 16 * fld nib n (x / 16)
  rw [← hi, ← hs.2.1];generalize two (x % 16) = a at *;generalize fld two n (x / 16) = b at *;have e1 : (a + 16 * b) &&& mk 3 (n + 1) = (a &&& 3) + 16 * (b &&& mk 3 n) := and_cut4 a b 3 (mk 3 n) hs.1 (by omega)
  have e2 : (a + 16 * b) / 4 &&& mk 3 (n + 1) = ((a / 4) &&& 3) + 16 * ((b / 4) &&& mk 3 n) := by
   have h := half3 ((a + 16 * b) % 64) (Nat.mod_lt _ (by omega))
   rw [show (a + 16 * b) % 64 / 4 % 16 = (a + 16 * b) / 4 % 16 by omega, show (a + 16 * b) % 64 % 16 = a by omega] at h
   rw [← h, show b / 4 = (a + 16 * b) / 4 / 16 by omega, ← and_cut4 ((a + 16 * b) / 4 % 16) ((a + 16 * b) / 4 / 16) 3 (mk 3 n) (Nat.mod_lt _ (by omega)) (by omega), Nat.mod_add_div]; rfl
  rw [e1, e2];omega
theorem bits_nib (x : Nat) : bitsN x 24 = nib (x % 16) + nib (x / 16 % 16) + nib (x / 256 % 16) + nib (x / 4096 % 16) + nib (x / 65536 % 16) + nib (x / 1048576 % 16) := by
 have low : ∀ y, bitsN y 4 = nib (y % 16) := fun y => (bitsN_low y 4).symm
 rw [show 24 = 4 + (4 + (4 + (4 + (4 + 4)))) from rfl, bitsN_add, bitsN_add, bitsN_add, bitsN_add, bitsN_add]
 rw [low, low, low, low, low, low];simp only [Nat.shiftRight_eq_div_pow, Nat.div_div_eq_div_mul];simp only [Nat.reducePow, Nat.reduceMul];omega
def mkb : Nat → Nat
 | 0 => 0
 | n + 1 => 15 + 256 * mkb n
theorem and15 (n w : Nat) : w &&& mkb (n + 1) = w % 16 + 256 * ((w / 256) &&& mkb n) := by
 have e : (w % 256) &&& 15 = w % 16 := by
  have := Nat.and_two_pow_sub_one_eq_mod (w % 256) 4;rw [show (2 : Nat) ^ 4 - 1 = 15 from rfl, show (2 : Nat) ^ 4 = 16 from rfl] at this
  rw [this]; omega
 rw [← e, ← and_cut8 (w % 256) (w / 256) 15 (mkb n) (Nat.mod_lt _ (by omega)) (by omega), Nat.mod_add_div]; rfl
theorem swar_mid (c0 c1 c2 c3 c4 c5 w : Nat) (b0 : c0 ≤ 4) (b1 : c1 ≤ 4) (b2 : c2 ≤ 4) (b3 : c3 ≤ 4) (b4 : c4 ≤ 4) (b5 : c5 ≤ 4) (hw : w = (c0 + c1) + 16 * (c1 + c2) + 256 * (c2 + c3) + 4096 * (c3 + c4) + 65536 * (c4 + c5) + 1048576 * c5) :
  w &&& mkb 8 = (c0 + c1) + 256 * ((c2 + c3) + 256 * (c4 + c5)) := by
 have q0 : w % 16 = c0 + c1 := by omega
 have q1 : w / 256 = (c2 + c3) + 16 * (c3 + c4) + 256 * (c4 + c5) + 4096 * c5 := by omega
 have q2 : w / 256 / 256 = (c4 + c5) + 16 * c5 := by rw [q1]; omega
 have q3 : w / 256 / 256 / 256 = 0 := by rw [q2]; omega
 have r1 : w / 256 % 16 = c2 + c3 := by rw [q1]; omega
 have r2 : w / 256 / 256 % 16 = c4 + c5 := by rw [q2]; omega
 rw [and15, and15, and15, q0, r1, r2, q3, Nat.zero_and, Nat.mul_zero, Nat.add_zero]
theorem swar_end (p q r t : Nat) (hp : p ≤ 8) (hq : q ≤ 8) (hr : r ≤ 8) (ht : t = p + 256 * (q + 256 * r)) : (t + t / 256 + (t + t / 256) / 65536 + (t + t / 256 + (t + t / 256) / 65536) / 4294967296) % 128 = p + q + r := by
 have e1 : t / 256 = q + 256 * r := by omega
 rw [e1];have e2 : (t + (q + 256 * r)) / 65536 = r := by omega
 rw [e2];have e3 : (t + (q + 256 * r) + r) / 4294967296 = 0 := by omega
 rw [e3];omega
theorem swar (x : Nat) (hx : x < 2 ^ 24) :
  let y := ((x / 2) &&& 6148914691236517205) + (x &&& 6148914691236517205)
  let z := ((y / 4) &&& 3689348814741910323) + (y &&& 3689348814741910323)
  let t := ((z / 16) + z) &&& 1085102592571150095
  y < 2 ^ 25 ∧ z < 2 ^ 25 ∧ t < 2 ^ 25 ∧ (t + t / 256 + (t + t / 256) / 65536 + (t + t / 256 + (t + t / 256) / 65536) / 4294967296) % 128 = bitsN x 24 ∧ bitsN x 24 ≤ 24 := by
 intro y z t;have m0 : mk 5 16 = 6148914691236517205 := by decide
 have m1 : mk 3 16 = 3689348814741910323 := by decide
 have m2 : mkb 8 = 1085102592571150095 := by decide
 have hy : y = fld two 16 x := by rw [← step1, m0]
 have hz : z = fld nib 16 x := by rw [← step2, m1, ← hy]
 have hz0 : fld nib 10 0 = 0 := by decide
 have hy0 : fld two 10 0 = 0 := by decide
 have x6 : x / 16 / 16 / 16 / 16 / 16 / 16 = 0 := by omega
 have two_lt : ∀ q, two (q % 16) < 16 := fun q => (nib_step _ (Nat.mod_lt _ (by omega))).1
 have nib_le : ∀ q, nib (q % 16) ≤ 4 := fun q => (nib_step _ (Nat.mod_lt _ (by omega))).2.2
 have hyb : y < 2 ^ 25 := by
  rw [hy];simp only [fld, x6];have a0 := two_lt x;have a1 := two_lt (x / 16);have a2 := two_lt (x / 16 / 16);have a3 := two_lt (x / 16 / 16 / 16);have a4 := two_lt (x / 16 / 16 / 16 / 16);have a5 := two_lt (x / 16 / 16 / 16 / 16 / 16);have t0 : two 0 = 0 := by decide
  simp only [Nat.zero_mod, Nat.zero_div, t0];omega
 have hzf : z = nib (x % 16) + 16 * (nib (x / 16 % 16) + 16 * (nib (x / 16 / 16 % 16) + 16 * (nib (x / 16 / 16 / 16 % 16) + 16 * (nib (x / 16 / 16 / 16 / 16 % 16) + 16 * nib (x / 16 / 16 / 16 / 16 / 16 % 16))))) := by
  have n0 : nib 0 = 0 := by decide
  rw [hz];simp only [fld, x6, Nat.zero_mod, Nat.zero_div, n0, Nat.mul_zero, Nat.add_zero]
 have hb := bits_nib x;have d1 : x / 256 = x / 16 / 16 := by omega
 have d2 : x / 4096 = x / 16 / 16 / 16 := by omega
 have d3 : x / 65536 = x / 16 / 16 / 16 / 16 := by omega
 have d4 : x / 1048576 = x / 16 / 16 / 16 / 16 / 16 := by omega
 rw [d1, d2, d3, d4] at hb;have b0 := nib_le x;have b1 := nib_le (x / 16);have b2 := nib_le (x / 16 / 16);have b3 := nib_le (x / 16 / 16 / 16);have b4 := nib_le (x / 16 / 16 / 16 / 16);have b5 := nib_le (x / 16 / 16 / 16 / 16 / 16);generalize nib (x % 16) = c0 at *;generalize nib (x / 16 % 16) = c1 at *;generalize nib (x / 16 / 16 % 16) = c2 at *;generalize nib (x / 16 / 16 / 16 % 16) = c3 at *;generalize nib (x / 16 / 16 / 16 / 16 % 16) = c4 at *;generalize nib (x / 16 / 16 / 16 / 16 / 16 % 16) = c5 at *;have ht : t = (c0 + c1) + 256 * ((c2 + c3) + 256 * (c4 + c5)) := by
  show ((z / 16) + z) &&& 1085102592571150095 = _
  rw [← m2];refine swar_mid c0 c1 c2 c3 c4 c5 _ b0 b1 b2 b3 b4 b5 ?_;clear hy hz hyb
  clear_value z
  clear hb x6 d1 d2 d3 d4 two_lt nib_le;omega
 clear_value y z t
 refine ⟨hyb, by omega, by omega, ?_, by omega⟩
 rw [swar_end (c0 + c1) (c2 + c3) (c4 + c5) t (by omega) (by omega) (by omega) ht, hb]
 omega
end Go.Abs
set_option linter.all false
namespace Go.Abs
set_option maxRecDepth 10000
structure LowBit (x k : Nat) : Prop where
 at' : x.testBit k = true
 none : ∀ j, j < k → x.testBit j = false
theorem low_ex {x : Nat} (h0 : x ≠ 0) : ∃ k, LowBit x k := by
 have hex : ∃ k, x.testBit k = true := by
  refine Classical.byContradiction fun hc => h0 (Nat.eq_of_testBit_eq fun i => ?_)
  rw [Nat.zero_testBit];cases h : x.testBit i
  ·rfl
  ·exact absurd ⟨i, h⟩ hc
 obtain ⟨k, hk⟩ := hex;induction k using Nat.strongRecOn with
 | ind k ih =>
  by_cases hm : ∃ m, m < k ∧ x.testBit m = true
  ·obtain ⟨m, h1, h2⟩ := hm
   exact ih m h1 h2
  ·refine ⟨k, hk, fun j hj => ?_⟩
   cases h : x.testBit j
   ·rfl
   ·exact absurd ⟨j, hj, h⟩ hm
theorem LowBit.lt {x k n : Nat} (h : LowBit x k) (hx : x < 2 ^ n) : k < n := by
 refine Nat.lt_of_not_le fun hle => ?_
 have := Nat.testBit_lt_two_pow (Nat.lt_of_lt_of_le hx (Nat.pow_le_pow_right (by omega) hle))
 rw [h.at'] at this; cases this
theorem LowBit.neg {x k : Nat} (h : LowBit x k) (hx : x < 2 ^ 64) : x &&& (2 ^ 64 - x) = 2 ^ k := by
 have hk := h.lt hx;have hm : x % 2 ^ k = 0 := by
  apply Nat.eq_of_testBit_eq;intro i;rw [Nat.testBit_mod_two_pow, Nat.zero_testBit];by_cases hi : i < k
  ·rw [h.none i hi, Bool.and_false]
  ·rw [decide_eq_false hi, Bool.false_and]
 have hodd : x / 2 ^ k % 2 = 1 := by
  have := h.at';rw [Nat.testBit_eq_decide_div_mod_eq] at this;exact of_decide_eq_true this
 have hx0 : 0 < x := by
  rcases Nat.eq_zero_or_pos x with h0 | h0
  ·subst h0; have := h.at'; rw [Nat.zero_testBit] at this; cases this
  ·exact h0
 have hp : 0 < 2 ^ k := Nat.pow_pos (by omega)
 have hdm := Nat.div_add_mod x (2 ^ k);rw [hm, Nat.add_zero] at hdm;have hq : 1 ≤ x / 2 ^ k := by
  rcases Nat.eq_zero_or_pos (x / 2 ^ k) with h0 | h0
  ·rw [h0] at hodd; simp at hodd
  ·exact h0
 have hx1 : x - 1 = 2 ^ k * (x / 2 ^ k - 1) + (2 ^ k - 1) := by
  have : 2 ^ k * (x / 2 ^ k) = 2 ^ k * (x / 2 ^ k - 1) + 2 ^ k := by
   rw [← Nat.mul_succ, Nat.succ_eq_add_one, Nat.sub_add_cancel hq]
  omega
 have hn : ∀ i, (2 ^ 64 - x).testBit i = (decide (i < 64) && !(x - 1).testBit i) := fun i => by
  have := Nat.testBit_two_pow_sub_succ (x := x - 1) (n := 64) (by omega) i
  rw [show x - 1 + 1 = x by omega] at this
  exact this
 apply Nat.eq_of_testBit_eq;intro i;rw [Nat.testBit_and, hn, Nat.testBit_two_pow];rcases Nat.lt_trichotomy i k with hi | hi | hi
 ·rw [h.none i hi, Bool.false_and, decide_eq_false (by omega)]
 ·subst hi
  have : (x - 1).testBit i = false := by
   rw [hx1, Nat.testBit_two_pow_mul_add _ (by omega), if_neg (by omega), Nat.sub_self, Nat.testBit_zero]
   rw [decide_eq_false (by omega)]
  rw [h.at', this, decide_eq_true hk]; simp
 ·have h1 : (x - 1).testBit i = x.testBit i := by
   rw [hx1, Nat.testBit_two_pow_mul_add _ (by omega), if_neg (by omega)]
   have h2 : x.testBit i = (x / 2 ^ k).testBit (i - k) := by
    rw [Nat.testBit_div_two_pow, show i - k + k = i by omega]
   rw [h2];obtain ⟨j, hj⟩ : ∃ j, i - k = j + 1 := ⟨i - k - 1, by omega⟩
   rw [hj, Nat.testBit_succ, Nat.testBit_succ]
   congr 1
   omega
  rw [h1, decide_eq_false (show ¬ k = i by omega)]
  cases x.testBit i <;> simp
end Go.Abs
set_option linter.all false
namespace Go.Abs
def tab64 : List Nat := [0, 1, 56, 2, 57, 49, 28, 3, 61, 58, 42, 50, 38, 29, 17, 4, 62, 47, 59, 36, 45, 43, 51, 22, 53, 39, 33, 30, 24, 18, 12, 5, 63, 55, 48, 27, 60, 41, 37, 16, 46, 35, 44, 21, 52, 32, 23, 11, 54, 26, 40, 15, 34, 20, 31, 10, 25, 14, 19, 9, 13, 8, 7, 6]
def tab32 : List Nat := [0, 1, 28, 2, 29, 14, 24, 3, 30, 22, 20, 15, 25, 17, 4, 8, 31, 27, 13, 23, 21, 19, 16, 7, 26, 12, 18, 6, 11, 5, 10, 9]
theorem tab64_at : ∀ k, k < 64 → tab64[(2 ^ k * 0x03f79d71b4ca8b09 % 2 ^ 64) / 2 ^ 58]? = some k := by decide +kernel
theorem low_tab {x k : Nat} (h : LowBit x k) (hx : x < 2 ^ 64) : tab64[((x &&& (2 ^ 64 - x)) * 0x03f79d71b4ca8b09 % 2 ^ 64) / 2 ^ 58]? = some k := by
 rw [h.neg hx];exact tab64_at k (h.lt hx)
end Go.Abs
