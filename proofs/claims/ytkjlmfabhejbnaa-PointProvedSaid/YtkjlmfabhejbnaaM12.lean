/-
 What the document asks of a bound row, in plain Lean: no program in sight.
-/
import Derived.Test.YtkjlmfabhejbnaaM10
import Derived.Test.YtkjlmfabhejbnaaR1
set_option linter.all false
namespace Go.Abs
set_option maxRecDepth 10000

theorem ptsT_at {r n i : Nat} (h : i < n) : gb (ptsT r n) i = r.testBit i := by
 have hl : (ptsT r n).length = n := by simp [ptsT]
 unfold gb
 rw [hl, Nat.mod_eq_of_lt h]
 unfold ptsT
 rw [List.getD_eq_getElem?_getD, List.getElem?_map, List.getElem?_range h]; rfl
theorem word_at {r n i : Nat} (h : i < n) : gb (wordN r n) i = r.testBit (n - 1 - i) := by
 unfold gb
 rw [wordN_len, Nat.mod_eq_of_lt h]
 exact wordN_get r n i h
theorem word_rev {r n i i' : Nat} (hn : 0 < n) (h : (i + i' + 1) % n = 0) : gb (wordN r n) i = gb (ptsT r n) i' := by
 have hl : (ptsT r n).length = n := by simp [ptsT]
 have hi := Nat.mod_lt i hn
 have hi' := Nat.mod_lt i' hn
 have e1 : gb (wordN r n) i = gb (wordN r n) (i % n) := by
  have := gb_mod (wordN r n) i
  rw [wordN_len] at this; exact this.symm
 have e2 : gb (ptsT r n) i' = gb (ptsT r n) (i' % n) := by
  have := gb_mod (ptsT r n) i'
  rw [hl] at this; exact this.symm
 rw [e1, e2, word_at hi, ptsT_at hi']
 congr 1
 have h3 : (i % n + i' % n + 1) % n = 0 := by rw [← h]; simp [Nat.add_mod]
 obtain ⟨c, hc⟩ := Nat.dvd_of_mod_eq_zero h3
 have : c = 1 := by
  rcases Nat.lt_or_ge c 1 with h | h
  ·have : c = 0 := by omega
   subst this; simp at hc
  ·rcases Nat.lt_or_ge 1 c with h' | h'
   ·have : n * 2 ≤ n * c := Nat.mul_le_mul_left n h'
    omega
   ·omega
 subst this
 omega
theorem BD_rev {l l' : List Bool} {b n : Nat} (hn : 0 < n) (h : ∀ i i', (i + i' + 1) % n = 0 → gb l' i = gb l i') (hB : BD l b) : BD l' b := fun i => by
 have hs : i + b + 1 ≤ n * (i + b + 1) := Nat.le_mul_of_pos_left _ hn
 obtain ⟨k, hk, hne⟩ := hB (n * (i + b + 1) - (i + b + 1))
 have e1 := h (i + b) (n * (i + b + 1) - (i + b + 1)) (by
  rw [show i + b + (n * (i + b + 1) - (i + b + 1)) + 1 = n * (i + b + 1) by omega]
  exact Nat.mul_mod_right _ _)
 have e2 := h (i + b - k) (n * (i + b + 1) - (i + b + 1) + k) (by
  rw [show i + b - k + (n * (i + b + 1) - (i + b + 1) + k) + 1 = n * (i + b + 1) by omega]
  exact Nat.mul_mod_right _ _)
 rw [← e1, ← e2] at hne
 by_cases h1 : gb l' (i + b) = gb l' i
 ·refine ⟨b - k, by omega, ?_⟩
  rw [show i + (b - k) = i + b - k by omega]
  rw [h1] at hne
  exact hne
 ·exact ⟨b, Nat.le_refl _, h1⟩
theorem BD_word {r n b : Nat} (hn : 0 < n) : BD (wordN r n) b ↔ BD (ptsT r n) b :=
 ⟨BD_rev hn fun i i' h => (word_rev hn (show (i' + i + 1) % n = 0 by rw [← h]; congr 1; omega)).symm, BD_rev hn fun i i' h => word_rev hn h⟩
/-- as the document asks it -/
def bdT (l : List Bool) (b : Nat) : Bool := (List.range l.length).all fun k => decide (lengthT l k ≤ b)
theorem bdT_iff {l : List Bool} {b : Nat} (h0 : 0 < l.length) (hb : b < 1000) : bdT l b = true ↔ BD l b := by
 have hall : bdT l b = true ↔ ∀ k, k < l.length → lengthT l k ≤ b := by
  unfold bdT
  rw [List.all_eq_true]
  exact ⟨fun h k hk => of_decide_eq_true (h k (List.mem_range.2 hk)), fun h k hk => decide_eq_true (h k (List.mem_range.1 hk))⟩
 rw [hall]
 constructor
 ·intro h i
  refine Classical.byContradiction fun hno => ?_
  have hsame : ∀ k, k ≤ b → gb l (i + k) = gb l i := fun k hk => Classical.byContradiction fun hne => hno ⟨k, hk, hne⟩
  have hany : anyTo l l.length = true := by
   refine Classical.byContradiction fun hc => ?_
   have hf : anyTo l l.length = false := by simpa using hc
   have h1 := h 0 h0
   have hb0 : begs l 0 = false := by
    unfold anyTo at hf
    rw [List.any_eq_false] at hf
    simpa using hf 0 (List.mem_range.2 h0)
   unfold lengthT at h1
   rw [hb0, hf] at h1
   simp at h1
   omega
  have hex : ∃ s, begs l s = true ∧ s < l.length := by
   unfold anyTo at hany
   rw [List.any_eq_true] at hany
   obtain ⟨s, hs, hb⟩ := hany
   exact ⟨s, hb, List.mem_range.1 hs⟩
  obtain ⟨s0, hs0, hs0l⟩ := hex
  -- go back to where the float begins
  have back : ∀ j, j ≤ i + l.length → (∀ m, m < j → begs l (i + l.length - m) = false) → ∀ m, m ≤ j → gb l (i + l.length - m) = gb l (i + l.length) := by
   intro j hj hb m
   induction m with
   | zero => intro _; rfl
   | succ m ih =>
    intro hm
    have h1 := hb m (by omega)
    have h2 := ih (by omega)
    unfold begs at h1
    have h3 : gb l (i + l.length - m) = gb l (i + l.length - m + l.length - 1) := by simpa using h1
    rw [← h2, h3]
    have : i + l.length - m + l.length - 1 = (i + l.length - (m + 1)) + l.length := by omega
    rw [this, gb_add]
  have hfind : ∃ j, j ≤ i + l.length ∧ begs l (i + l.length - j) = true ∧ ∀ m, m < j → begs l (i + l.length - m) = false := by
   have hx : ∃ j, j ≤ i + l.length ∧ begs l (i + l.length - j) = true := ⟨i + l.length - s0, by omega, by rw [show i + l.length - (i + l.length - s0) = s0 by omega]; exact hs0⟩
   obtain ⟨j, hj, hbj⟩ := hx
   induction j using Nat.strongRecOn with
   | ind j ih =>
    by_cases hm : ∃ m, m < j ∧ begs l (i + l.length - m) = true
    ·obtain ⟨m, hm1, hm2⟩ := hm
     exact ih m hm1 (by omega) hm2
    ·refine ⟨j, hj, hbj, fun m hm' => ?_⟩
     cases hq : begs l (i + l.length - m)
     ·rfl
     ·exact absurd ⟨m, hm', hq⟩ hm
  obtain ⟨j, hj, hbj, hnb⟩ := hfind
  have hbk := back j hj hnb
  have hL := lenT_is hbj
  have hlen : lenT l ((i + l.length - j) % l.length) = lenT l (i + l.length - j) := (lenT_is (by rw [begs_mod]; exact hbj)).eq (by
   have hm := Nat.mod_lt (i + l.length - j) h0
   refine ⟨hL.pos, hL.lt, fun k hk => ?_, ?_⟩
   ·have := hL.same k hk
    unfold gb at *
    rw [Nat.mod_add_mod, Nat.mod_mod]; exact this
   ·have := hL.other
    unfold gb at *
    rw [Nat.mod_add_mod, Nat.mod_mod]; exact this)
  have h2 := h ((i + l.length - j) % l.length) (Nat.mod_lt _ h0)
  unfold lengthT at h2
  rw [begs_mod, hbj, if_pos rfl, hlen] at h2
  apply hL.other
  rw [hbk j (Nat.le_refl _)]
  rcases Nat.lt_or_ge j (lenT l (i + l.length - j)) with h3 | h3
  ·rw [show i + l.length - j + lenT l (i + l.length - j) = (i + (lenT l (i + l.length - j) - j)) + l.length by omega, gb_add, hsame _ (by omega), gb_add]
  ·rw [show i + l.length - j + lenT l (i + l.length - j) = i + l.length - (j - lenT l (i + l.length - j)) by omega]
   exact hbk _ (by omega)
 ·intro hB k hk
  unfold lengthT
  by_cases hb' : begs l k = true
  ·rw [hb', if_pos rfl]
   have hL := lenT_is hb'
   refine Classical.byContradiction fun hc => ?_
   obtain ⟨m, hm, hne⟩ := hB k
   exact hne (hL.same m (by omega))
  ·have hb2 : begs l k = false := by simpa using hb'
   rw [hb2]
   simp only [Bool.false_eq_true, if_false]
   split
   ·omega
   ·rename_i ha
    exfalso
    have ha' : anyTo l l.length = false := by simpa using ha
    have he := (endless_iff h0).1 ha'
    obtain ⟨m, hm, hne⟩ := hB 0
    rw [he (0 + m), he 0] at hne
    exact hne rfl
theorem bd_word {r n b : Nat} (hn : 0 < n) (hb : b < 1000) : bdT (ptsT r n) b = true ↔ BD (wordN r n) b := by
 have hl : (ptsT r n).length = n := by simp [ptsT]
 rw [bdT_iff (by omega) hb, BD_word hn]
/-- the points that must stay -/
theorem keep_and {row fixed x n : Nat} (hf : fixed < 2 ^ n) : (x ^^^ row) &&& fixed = 0 ↔ keepN row fixed x n := by
 constructor
 ·intro h j hj hfj
  have := congrArg (fun y => Nat.testBit y j) h
  simp only [Nat.testBit_and, Nat.testBit_xor, Nat.zero_testBit, hfj, Bool.and_true] at this
  revert this
  cases x.testBit j <;> cases row.testBit j <;> simp
 ·intro h
  apply Nat.eq_of_testBit_eq
  intro j
  rw [Nat.testBit_and, Nat.testBit_xor, Nat.zero_testBit]
  cases hfj : fixed.testBit j with
  | false => simp
  | true =>
   rcases Nat.lt_or_ge j n with hj | hj
   ·rw [h j hj hfj]; simp
   ·have hp : 2 ^ n ≤ 2 ^ j := Nat.pow_le_pow_right (by omega) hj
    rw [Nat.testBit_lt_two_pow (Nat.lt_of_lt_of_le hf hp)] at hfj
    cases hfj
theorem chg_xor (x row n : Nat) : chgN x row n = cntN (fun h => (x ^^^ row).testBit h) n := by
 unfold chgN
 apply cntN_congr
 intro i _
 rw [Nat.testBit_xor]
theorem cnt_stop {f : Nat → Bool} {i n : Nat} (h : ∀ j, i ≤ j → f j = false) (hi : i ≤ n) : cntN f n = cntN f i := by
 induction n with
 | zero =>
  have : i = 0 := by omega
  rw [this]
 | succ n ih =>
  rcases Nat.lt_or_ge n i with h1 | h1
  ·have : i = n + 1 := by omega
   rw [this]
  ·rw [cntN_succ, ih h1, h n h1]; simp
/-- the best among the first so many rows -/
structure BestTo (row fixed H b m x n : Nat) : Prop where
 lt : x < m
 can : CanBe row fixed H b x
 chg : chgN x row H = n
 min : ∀ y, y < m → CanBe row fixed H b y → n ≤ chgN y row H ∧ (chgN y row H = n → x ≤ y)
theorem BestTo.is {row fixed H b x n : Nat} (h : BestTo row fixed H b (2 ^ H) x n) : IsBest row fixed H b x n := ⟨h.can, h.chg, fun y hy => h.min y hy.lt hy⟩
theorem BestTo.skip {row fixed H b m x n : Nat} (h : BestTo row fixed H b m x n) (hn : ¬ (CanBe row fixed H b m ∧ chgN m row H < n)) : BestTo row fixed H b (m + 1) x n where
 lt := by have := h.lt; omega
 can := h.can
 chg := h.chg
 min := fun y hy hc => by
  rcases Nat.lt_or_ge y m with h1 | h1
  ·exact h.min y h1 hc
  ·obtain rfl : y = m := by omega
   have := h.lt
   refine ⟨?_, by omega⟩
   rcases Nat.lt_or_ge (chgN y row H) n with h2 | h2
   ·exact absurd ⟨hc, h2⟩ hn
   ·exact h2
theorem BestTo.better {row fixed H b m x n : Nat} (h : BestTo row fixed H b m x n) (hc : CanBe row fixed H b m) (hn : chgN m row H < n) : BestTo row fixed H b (m + 1) m (chgN m row H) where
 lt := by omega
 can := hc
 chg := rfl
 min := fun y hy hcy => by
  rcases Nat.lt_or_ge y m with h1 | h1
  ·have := h.min y h1 hcy
   exact ⟨by omega, by omega⟩
  ·obtain rfl : y = m := by omega
   exact ⟨Nat.le_refl _, fun _ => Nat.le_refl _⟩
theorem BestTo.first {row fixed H b m : Nat} (hno : ∀ y, y < m → ¬ CanBe row fixed H b y) (hc : CanBe row fixed H b m) : BestTo row fixed H b (m + 1) m (chgN m row H) where
 lt := by omega
 can := hc
 chg := rfl
 min := fun y hy hcy => by
  rcases Nat.lt_or_ge y m with h1 | h1
  ·exact absurd hcy (hno y h1)
  ·obtain rfl : y = m := by omega
   exact ⟨Nat.le_refl _, fun _ => Nat.le_refl _⟩
end Go.Abs
