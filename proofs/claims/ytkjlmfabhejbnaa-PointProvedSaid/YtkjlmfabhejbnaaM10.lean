/-
 Bound rings, and the search along a row. Plain Lean: no program in sight.
-/
import Derived.Test.YtkjlmfabhejbnaaM5
import Derived.Test.YtkjlmfabhejbnaaM1
set_option linter.all false
namespace Go.Abs
set_option maxRecDepth 10000

/-- no float is longer than a number: of so many points and one more, one after another, two are not alike -/
def BD (l : List Bool) (b : Nat) : Prop := ∀ i, ∃ k, k ≤ b ∧ gb l (i + k) ≠ gb l i
def cN (u : List Bool) (i : Nat) : Bool := u.getD i false
theorem cN_gb {u : List Bool} {i : Nat} (h : i < u.length) : gb u i = cN u i := by
 unfold gb cN; rw [Nat.mod_eq_of_lt h]
theorem cN_app {u w : List Bool} {i : Nat} (h : i < u.length) : cN (u ++ w) i = cN u i := by
 unfold cN
 rw [List.getD_eq_getElem?_getD, List.getD_eq_getElem?_getD, List.getElem?_append_left h]
theorem cN_last (u : List Bool) (v : Bool) : cN (u ++ [v]) u.length = v := by
 unfold cN
 rw [List.getD_eq_getElem?_getD, List.getElem?_append_right (by omega), Nat.sub_self]; rfl
/-- what the search knows of the points that it has passed -/
structure Inv (b : Nat) (u : List Bool) (len first : Nat) (up : Bool) : Prop where
 pos : 1 ≤ len
 le : len ≤ u.length
 lb : len ≤ b
 tail : ∀ i, u.length - len ≤ i → i < u.length → cN u i = up
 all : first = 0 → len = u.length
 fle : first ≠ 0 → first + len ≤ u.length
 head : ∀ i, i < first → cN u i = cN u 0
 hend : first ≠ 0 → cN u first ≠ cN u 0
 brk : first ≠ 0 → cN u (u.length - len - 1) ≠ up
 lin : ∀ i, i + b < u.length → ∃ k, k ≤ b ∧ cN u (i + k) ≠ cN u i
theorem Inv.start {b : Nat} (hb : 1 ≤ b) (t : Bool) : Inv b [t] 1 0 t where
 pos := by omega
 le := by simp
 lb := hb
 tail := fun i _ h => by
  have : i = 0 := by simpa using h
  subst this; rfl
 all := fun _ => rfl
 fle := fun h => absurd rfl h
 head := fun i h => by omega
 hend := fun h => absurd rfl h
 brk := fun h => absurd rfl h
 lin := fun i h => by simp at h; omega
def lenS (len : Nat) (up v : Bool) : Nat := if v = up then len + 1 else 1
def firstS (len first : Nat) (up v : Bool) : Nat := if v = up then first else if first = 0 then len else first
theorem Inv.step {b : Nat} {u : List Bool} {len first : Nat} {up : Bool} (h : Inv b u len first up) (v : Bool) (hl : lenS len up v ≤ b) : Inv b (u ++ [v]) (lenS len up v) (firstS len first up v) v := by
 have hul : (u ++ [v]).length = u.length + 1 := by simp
 have hp := h.pos
 have hle := h.le
 have h0 : 0 < u.length := by omega
 have ca : ∀ {i}, i < u.length → cN (u ++ [v]) i = cN u i := fun hi => cN_app hi
 have cl := cN_last u v
 unfold lenS firstS at *
 by_cases hv : v = up
 ·simp only [hv, if_true] at *
  refine ⟨by omega, by omega, hl, fun i h1 h2 => ?_, fun h1 => ?_, fun h1 => ?_, fun i hi => ?_, fun h1 => ?_, fun h1 => ?_, fun i hi => ?_⟩
  ·rcases Nat.lt_or_ge i u.length with h3 | h3
   ·rw [ca h3]; exact h.tail i (by omega) h3
   ·obtain rfl : i = u.length := by omega
    exact cl
  ·have := h.all h1; omega
  ·have := h.fle h1; omega
  ·have hf : first ≠ 0 := by omega
   have := h.fle hf
   rw [ca (by omega), ca h0]; exact h.head i hi
  ·have := h.fle h1
   rw [ca (by omega), ca h0]; exact h.hend h1
  ·have := h.fle h1
   rw [hul, show u.length + 1 - (len + 1) - 1 = u.length - len - 1 by omega, ca (by omega)]; exact h.brk h1
  ·rcases Nat.lt_or_ge (i + b) u.length with h3 | h3
   ·obtain ⟨k, hk, hn⟩ := h.lin i h3
    exact ⟨k, hk, by rw [ca (by omega), ca (by omega)]; exact hn⟩
   ·have e : i + b = u.length := by omega
    by_cases hf : first = 0
    ·have := h.all hf; omega
    ·have h4 := h.fle hf
     have h5 := h.brk hf
     by_cases h6 : cN u (u.length - len - 1) = cN u i
     ·refine ⟨b, Nat.le_refl _, ?_⟩
      rw [e, cl, ca (by omega), ← h6]
      exact fun e => h5 e.symm
     ·refine ⟨u.length - len - 1 - i, by omega, ?_⟩
      rw [show i + (u.length - len - 1 - i) = u.length - len - 1 by omega, ca (by omega), ca (by omega)]
      exact h6
 ·simp only [if_neg hv] at hl ⊢
  refine ⟨by omega, by omega, hl, fun i h1 h2 => ?_, fun h1 => ?_, fun h1 => ?_, fun i hi => ?_, fun h1 => ?_, fun h1 => ?_, fun i hi => ?_⟩
  ·obtain rfl : i = u.length := by omega
   exact cl
  ·split at h1 <;> omega
  ·split
   ·omega
   ·rename_i hf
    have := h.fle hf; omega
  ·rw [ca h0]
   split at hi
   ·rename_i hf
    have := h.all hf
    rw [ca (by omega), h.tail i (by omega) (by omega), h.tail 0 (by omega) (by omega)]
   ·rename_i hf
    have := h.fle hf
    rw [ca (by omega)]; exact h.head i hi
  ·rw [ca h0]
   split
   ·rename_i hf
    have e := h.all hf
    rw [e, cl, h.tail 0 (by omega) (by omega)]; exact hv
   ·rename_i hf
    have := h.fle hf
    rw [ca (by omega)]; exact h.hend hf
  ·rw [hul, show u.length + 1 - 1 - 1 = u.length - 1 by omega, ca (by omega), h.tail _ (by omega) (by omega)]
   exact fun e => hv e.symm
  ·rcases Nat.lt_or_ge (i + b) u.length with h3 | h3
   ·obtain ⟨k, hk, hn⟩ := h.lin i h3
    exact ⟨k, hk, by rw [ca (by omega), ca (by omega)]; exact hn⟩
   ·have e : i + b = u.length := by omega
    have h4 := h.tail (u.length - 1) (by omega) (by omega)
    by_cases h5 : cN u i = v
    ·refine ⟨b - 1, by omega, ?_⟩
     rw [show i + (b - 1) = u.length - 1 by omega, ca (by omega), ca (by omega), h4, h5]
     exact fun e => hv e.symm
    ·refine ⟨b, Nat.le_refl _, ?_⟩
     rw [e, cl, ca (by omega)]
     exact fun e => h5 e.symm
/-- the end of the search: round the edge too -/
def goodEnd (b : Nat) (top : Bool) (len first : Nat) (up : Bool) : Prop := first ≠ 0 ∧ ¬ (up = top ∧ b < len + first)
theorem BD_mod {l : List Bool} (h0 : 0 < l.length) {b : Nat} (h : ∀ i, i < l.length → ∃ k, k ≤ b ∧ gb l (i + k) ≠ gb l i) : BD l b := fun i => by
 obtain ⟨k, hk, hn⟩ := h (i % l.length) (Nat.mod_lt _ h0)
 refine ⟨k, hk, ?_⟩
 rw [gb_mod] at hn
 rw [show gb l (i + k) = gb l (i % l.length + k) by unfold gb; rw [Nat.mod_add_mod]]
 exact hn
theorem Inv.final {b : Nat} {u : List Bool} {len first : Nat} {up : Bool} (h : Inv b u len first up) : goodEnd b (cN u 0) len first up ↔ BD u b := by
 have hp := h.pos
 have hle := h.le
 have h0 : 0 < u.length := by omega
 unfold goodEnd
 constructor
 ·rintro ⟨hf, hn⟩
  have hfl := h.fle hf
  refine BD_mod h0 fun i hi => ?_
  rcases Nat.lt_or_ge (i + b) u.length with h1 | h1
  ·obtain ⟨k, hk, hne⟩ := h.lin i h1
   exact ⟨k, hk, by rw [cN_gb (by omega), cN_gb (by omega)]; exact hne⟩
  ·refine Classical.byContradiction fun hno => ?_
   have hall : ∀ k, k ≤ b → gb u (i + k) = gb u i := fun k hk => Classical.byContradiction fun hne => hno ⟨k, hk, hne⟩
   have hH := hall (u.length - 1 - i) (by omega)
   rw [show i + (u.length - 1 - i) = u.length - 1 by omega, cN_gb (by omega), h.tail _ (by omega) (by omega)] at hH
   have h00 : gb u i = cN u 0 := by
    have := hall (u.length - i) (by omega)
    rw [show i + (u.length - i) = 0 + u.length by omega, gb_add, cN_gb h0] at this
    exact this.symm
   have hx : len + first ≤ b := by
    refine Classical.byContradiction fun hc => hn ⟨by rw [hH, h00], by omega⟩
   have hi2 : u.length - len ≤ i := by
    refine Classical.byContradiction fun hc => ?_
    have := hall (u.length - len - 1 - i) (by omega)
    rw [show i + (u.length - len - 1 - i) = u.length - len - 1 by omega, cN_gb (by omega)] at this
    exact h.brk hf (this.trans hH.symm)
   have hi3 : i + b - u.length < first := by
    refine Classical.byContradiction fun hc => ?_
    have := hall (u.length + first - i) (by omega)
    rw [show i + (u.length + first - i) = first + u.length by omega, gb_add, cN_gb (by omega)] at this
    exact h.hend hf (this.trans h00)
   omega
 ·intro hB
  have hf : first ≠ 0 := fun hf => by
   have e := h.all hf
   obtain ⟨k, hk, hne⟩ := hB 0
   apply hne
   rw [← gb_mod u (0 + k), cN_gb (Nat.mod_lt _ h0), cN_gb h0, h.tail _ (by omega) (Nat.mod_lt _ h0), h.tail _ (by omega) h0]
  refine ⟨hf, ?_⟩
  rintro ⟨hu, hlt⟩
  have hfl := h.fle hf
  obtain ⟨k, hk, hne⟩ := hB (u.length - len)
  apply hne
  rw [cN_gb (show u.length - len < u.length by omega), h.tail (u.length - len) (by omega) (by omega)]
  rcases Nat.lt_or_ge k len with h1 | h1
  ·rw [cN_gb (by omega), h.tail _ (by omega) (by omega)]
  ·rw [show u.length - len + k = (k - len) + u.length by omega, gb_add, cN_gb (by omega), h.head _ (by omega), hu]
/-- the points that are left make a bound ring -/
def goodW (b : Nat) (top : Bool) : Nat → Nat → Bool → List Bool → Prop
 | len, first, up, [] => goodEnd b top len first up
 | len, first, up, v :: w => lenS len up v ≤ b ∧ goodW b top (lenS len up v) (firstS len first up v) v w
theorem goodW_iff {b : Nat} {top : Bool} (w : List Bool) : ∀ {u : List Bool} {len first : Nat} {up : Bool}, Inv b u len first up → cN u 0 = top → (goodW b top len first up w ↔ BD (u ++ w) b) := by
 induction w with
 | nil =>
  intro u len first up h ht
  rw [List.append_nil, ← h.final, ht]; rfl
 | cons v w ih =>
  intro u len first up h ht
  have hp := h.pos
  have hle := h.le
  have h0 : 0 < u.length := by omega
  by_cases hl : lenS len up v ≤ b
  ·have := ih (h.step v hl) (by rw [cN_app h0]; exact ht)
   rw [List.append_assoc] at this
   rw [show u ++ v :: w = u ++ ([v] ++ w) from rfl, ← this]
   exact ⟨fun h => h.2, fun h => ⟨hl, h⟩⟩
  ·constructor
   ·exact fun h => absurd h.1 hl
   ·intro hB
    exfalso
    have hlb := h.lb
    unfold lenS at hl
    split at hl
    ·rename_i hv
     obtain ⟨k, hk, hne⟩ := hB (u.length - len)
     have hL : (u ++ v :: w).length = u.length + w.length + 1 := by simp; omega
     have key : ∀ k, k ≤ b → gb (u ++ v :: w) (u.length - len + k) = up := fun k hk => by
      rw [cN_gb (by omega)]
      rcases Nat.lt_or_ge k len with h1 | h1
      ·rw [cN_app (by omega)]; exact h.tail _ (by omega) (by omega)
      ·have : u.length - len + k = u.length := by omega
       rw [this, show u ++ v :: w = (u ++ [v]) ++ w by simp, cN_app (by simp), cN_last]; exact hv
     apply hne
     rw [key k hk]
     have := key 0 (by omega)
     rw [Nat.add_zero] at this
     exact this.symm
    ·omega
theorem goodW_start {b : Nat} (hb : 1 ≤ b) (t : Bool) (w : List Bool) : goodW b t 1 0 t w ↔ BD (t :: w) b := goodW_iff w (Inv.start hb t) rfl
end Go.Abs

namespace Go.Abs
set_option maxRecDepth 10000

abbrev never : Nat := 1048576
/-- how many changes a point is -/
def costN (row fixed h : Nat) (v : Bool) : Nat := if row.testBit h = v then 0 else if fixed.testBit h then never else 1
/-- the fewest changes of the points that are left -/
def leastT (row fixed b : Nat) (top : Bool) : Nat → Nat → Nat → Bool → Nat
 | 0, len, first, up => if first = 0 ∨ (up = top ∧ b < len + first) then never else 0
 | n + 1, len, first, up =>
  min (min never (if lenS len up false ≤ b then costN row fixed n false + leastT row fixed b top n (lenS len up false) (firstS len first up false) false else never))
   (if lenS len up true ≤ b then costN row fixed n true + leastT row fixed b top n (lenS len up true) (firstS len first up true) true else never)
def optT (row fixed b : Nat) (top : Bool) (n len first : Nat) (up v : Bool) : Nat :=
 if lenS len up v ≤ b then costN row fixed n v + leastT row fixed b top n (lenS len up v) (firstS len first up v) v else never
theorem leastT_succ (row fixed b : Nat) (top : Bool) (n len first : Nat) (up : Bool) : leastT row fixed b top (n + 1) len first up = min (min never (optT row fixed b top n len first up false)) (optT row fixed b top n len first up true) := rfl
theorem leastT_le (row fixed b : Nat) (top : Bool) (n len first : Nat) (up : Bool) : leastT row fixed b top n len first up ≤ never := by
 cases n with
 | zero => unfold leastT; split <;> omega
 | succ n => rw [leastT_succ]; omega
theorem leastT_opt (row fixed b : Nat) (top : Bool) (n len first : Nat) (up v : Bool) : leastT row fixed b top (n + 1) len first up ≤ optT row fixed b top n len first up v := by
 rw [leastT_succ]
 cases v <;> omega
/-- changes of the points of the hooks below n -/
def chgW (row : Nat) : List Bool → Nat
 | [] => 0
 | v :: w => (if row.testBit w.length = v then 0 else 1) + chgW row w
def fixW (row fixed : Nat) : List Bool → Prop
 | [] => True
 | v :: w => (row.testBit w.length = v ∨ fixed.testBit w.length = false) ∧ fixW row fixed w
theorem chgW_le (row : Nat) (w : List Bool) : chgW row w ≤ w.length := by
 induction w with
 | nil => simp [chgW]
 | cons v w ih => unfold chgW; rw [List.length_cons]; split <;> omega
theorem least_le {row fixed b : Nat} {top : Bool} (w : List Bool) : ∀ {len first : Nat} {up : Bool}, goodW b top len first up w → fixW row fixed w → leastT row fixed b top w.length len first up ≤ chgW row w := by
 induction w with
 | nil =>
  intro len first up h _
  unfold goodW goodEnd at h
  change (if first = 0 ∨ (up = top ∧ b < len + first) then never else 0) ≤ _
  rw [if_neg]
  ·exact Nat.zero_le _
  ·rintro (h1 | h1)
   ·exact h.1 h1
   ·exact h.2 h1
 | cons v w ih =>
  intro len first up h hf
  have h2 := ih h.2 hf.2
  refine Nat.le_trans (leastT_opt row fixed b top w.length len first up v) ?_
  unfold optT chgW
  rw [if_pos h.1]
  have : costN row fixed w.length v = if row.testBit w.length = v then 0 else 1 := by
   unfold costN
   rcases hf.1 with h3 | h3
   ·rw [if_pos h3, if_pos h3]
   ·rw [h3]; rfl
  omega
/-- a row out of points from the highest hook on -/
def numW : List Bool → Nat
 | [] => 0
 | v :: w => (if v then 2 ^ w.length else 0) + numW w
theorem numW_lt (w : List Bool) : numW w < 2 ^ w.length := by
 induction w with
 | nil => simp [numW]
 | cons v w ih =>
  unfold numW
  rw [List.length_cons, Nat.pow_succ]
  split <;> omega
/-- the points that the search chooses -/
def greedyW (row fixed b : Nat) (top : Bool) : Nat → Nat → Nat → Bool → List Bool
 | 0, _, _, _ => []
 | n + 1, len, first, up =>
  if lenS len up false ≤ b ∧ costN row fixed n false + leastT row fixed b top n (lenS len up false) (firstS len first up false) false = leastT row fixed b top (n + 1) len first up then
   false :: greedyW row fixed b top n (lenS len up false) (firstS len first up false) false
  else true :: greedyW row fixed b top n (lenS len up true) (firstS len first up true) true
theorem greedy_len (row fixed b : Nat) (top : Bool) : ∀ (n len first : Nat) (up : Bool), (greedyW row fixed b top n len first up).length = n := by
 intro n
 induction n with
 | zero => intros; rfl
 | succ n ih =>
  intro len first up
  unfold greedyW
  split <;> rw [List.length_cons, ih]
/-- what the search chooses next -/
def choice (row fixed b : Nat) (top : Bool) (n len first : Nat) (up : Bool) : Bool := !decide (lenS len up false ≤ b ∧ costN row fixed n false + leastT row fixed b top n (lenS len up false) (firstS len first up false) false = leastT row fixed b top (n + 1) len first up)
theorem greedy_succ (row fixed b : Nat) (top : Bool) (n len first : Nat) (up : Bool) : greedyW row fixed b top (n + 1) len first up = choice row fixed b top n len first up :: greedyW row fixed b top n (lenS len up (choice row fixed b top n len first up)) (firstS len first up (choice row fixed b top n len first up)) (choice row fixed b top n len first up) := by
 conv => lhs; unfold greedyW
 unfold choice
 split
 ·rename_i h; rw [decide_eq_true h]; rfl
 ·rename_i h; rw [decide_eq_false h]; rfl
theorem choice_is {row fixed b : Nat} {top : Bool} {n len first : Nat} {up : Bool} (h : leastT row fixed b top (n + 1) len first up < never) :
  lenS len up (choice row fixed b top n len first up) ≤ b ∧ costN row fixed n (choice row fixed b top n len first up) + leastT row fixed b top n (lenS len up (choice row fixed b top n len first up)) (firstS len first up (choice row fixed b top n len first up)) (choice row fixed b top n len first up) = leastT row fixed b top (n + 1) len first up := by
 by_cases h1 : lenS len up false ≤ b ∧ costN row fixed n false + leastT row fixed b top n (lenS len up false) (firstS len first up false) false = leastT row fixed b top (n + 1) len first up
 ·rw [show choice row fixed b top n len first up = false by unfold choice; rw [decide_eq_true h1]; rfl]
  exact h1
 ·rw [show choice row fixed b top n len first up = true by unfold choice; rw [decide_eq_false h1]; rfl]
  have e := leastT_succ row fixed b top n len first up
  have ho : optT row fixed b top n len first up true = leastT row fixed b top (n + 1) len first up := by
   by_cases h2 : optT row fixed b top n len first up false = leastT row fixed b top (n + 1) len first up
   ·exfalso
    apply h1
    unfold optT at h2
    split at h2
    ·rename_i h3; exact ⟨h3, h2⟩
    ·omega
   ·have := leastT_opt row fixed b top n len first up false
    omega
  unfold optT at ho
  split at ho
  ·rename_i h3; exact ⟨h3, ho⟩
  ·omega
theorem greedy_good {row fixed b : Nat} {top : Bool} : ∀ {n len first : Nat} {up : Bool}, leastT row fixed b top n len first up < never →
  goodW b top len first up (greedyW row fixed b top n len first up) ∧ fixW row fixed (greedyW row fixed b top n len first up) ∧ chgW row (greedyW row fixed b top n len first up) = leastT row fixed b top n len first up := by
 intro n
 induction n with
 | zero =>
  intro len first up h
  unfold leastT at h
  split at h
  ·omega
  ·rename_i h1
   refine ⟨⟨fun h => h1 (.inl h), fun h => h1 (.inr h)⟩, trivial, ?_⟩
   unfold leastT
   rw [if_neg h1]; rfl
 | succ n ih =>
  intro len first up h
  obtain ⟨h1, h2⟩ := choice_is h
  rw [greedy_succ]
  generalize choice row fixed b top n len first up = v at *
  have hc : costN row fixed n v < never := by omega
  obtain ⟨i1, i2, i3⟩ := ih (len := lenS len up v) (first := firstS len first up v) (up := v) (by omega)
  have hg := greedy_len row fixed b top n (lenS len up v) (firstS len first up v) v
  refine ⟨⟨h1, i1⟩, ⟨?_, i2⟩, ?_⟩
  ·rw [hg]
   unfold costN at hc
   split at hc
   ·rename_i h3; exact .inl h3
   ·split at hc
    ·omega
    ·rename_i h4; exact .inr (by simpa using h4)
  ·unfold chgW
   rw [hg, i3, ← h2]
   congr 1
   unfold costN at *
   split
   ·rfl
   ·rename_i h3
    rw [if_neg h3] at hc
    split at hc
    ·omega
    ·rename_i h4; rw [if_neg h4]
theorem greedy_least {row fixed b : Nat} {top : Bool} (w : List Bool) : ∀ {len first : Nat} {up : Bool}, goodW b top len first up w → fixW row fixed w → chgW row w = leastT row fixed b top w.length len first up → numW (greedyW row fixed b top w.length len first up) ≤ numW w := by
 induction w with
 | nil => intros; exact Nat.le_refl _
 | cons v w ih =>
  intro len first up h hf hc
  rw [List.length_cons] at *
  have hcl := chgW_le row (v :: w)
  have h1 := least_le w h.2 hf.2
  have hco : costN row fixed w.length v = if row.testBit w.length = v then 0 else 1 := by
   unfold costN
   rcases hf.1 with h3 | h3
   ·rw [if_pos h3, if_pos h3]
   ·rw [h3]; rfl
  have ho := leastT_opt row fixed b top w.length len first up v
  have he : optT row fixed b top w.length len first up v = costN row fixed w.length v + leastT row fixed b top w.length (lenS len up v) (firstS len first up v) v := by
   unfold optT; rw [if_pos h.1]
  have hch : chgW row (v :: w) = (if row.testBit w.length = v then 0 else 1) + chgW row w := rfl
  have hw : chgW row w = leastT row fixed b top w.length (lenS len up v) (firstS len first up v) v := by omega
  have ih' := ih h.2 hf.2 hw
  have hl : costN row fixed w.length v + leastT row fixed b top w.length (lenS len up v) (firstS len first up v) v = leastT row fixed b top (w.length + 1) len first up := by omega
  rw [greedy_succ]
  by_cases hch' : choice row fixed b top w.length len first up = v
  ·rw [hch']
   unfold numW
   rw [greedy_len]
   omega
  ·cases v with
   | false =>
    exfalso
    apply hch'
    unfold choice
    rw [decide_eq_true ⟨h.1, hl⟩]; rfl
   | true =>
    have hcf : choice row fixed b top w.length len first up = false := by
     cases hq : choice row fixed b top w.length len first up
     ·rfl
     ·exact absurd hq hch'
    rw [hcf]
    have h5 := numW_lt (greedyW row fixed b top w.length (lenS len up false) (firstS len first up false) false)
    rw [greedy_len] at h5
    unfold numW
    simp only [if_true, Bool.false_eq_true, if_false]
    omega

/-- the fewest changes of a row whose highest point is this, and the row -/
def topT (row fixed H b : Nat) (t : Bool) : Nat := costN row fixed (H - 1) t + leastT row fixed b t (H - 1) 1 0 t
def topW (row fixed H b : Nat) (t : Bool) : List Bool := t :: greedyW row fixed b t (H - 1) 1 0 t
def bindChg (row fixed H b : Nat) : Nat := min never (min (topT row fixed H b false) (topT row fixed H b true))
def bindTop (row fixed H b : Nat) : Bool := decide (topT row fixed H b true < min never (topT row fixed H b false))
def bindRow (row fixed H b : Nat) : Nat := numW (topW row fixed H b (bindTop row fixed H b))

/-- the points of a row from the highest hook on -/
def wordN (x : Nat) : Nat → List Bool
 | 0 => []
 | n + 1 => x.testBit n :: wordN x n
theorem wordN_len (x n : Nat) : (wordN x n).length = n := by
 induction n with
 | zero => rfl
 | succ n ih => unfold wordN; rw [List.length_cons, ih]
theorem numW_bit (w : List Bool) : ∀ j, j < w.length → (numW w).testBit j = w.getD (w.length - 1 - j) false := by
 induction w with
 | nil => intro j h; simp at h
 | cons v w ih =>
  intro j hj
  rw [List.length_cons] at hj
  have hlt := numW_lt w
  have e : numW (v :: w) = (if v then 2 ^ w.length else 0) + numW w := rfl
  rw [e, List.length_cons]
  rcases Nat.lt_or_ge j w.length with h | h
  ·have h2 : ((if v then 2 ^ w.length else 0) + numW w).testBit j = (numW w).testBit j := by
    cases v
    ·simp
    ·simp only [if_true]
     rw [Nat.testBit_two_pow_add_gt h]
   rw [h2, ih j h, show w.length + 1 - 1 - j = (w.length - 1 - j) + 1 by omega, List.getD_cons_succ]
  ·obtain rfl : j = w.length := by omega
   rw [show w.length + 1 - 1 - w.length = 0 by omega, List.getD_cons_zero]
   cases v
   ·simp only [Bool.false_eq_true, if_false, Nat.zero_add]
    exact Nat.testBit_lt_two_pow hlt
   ·simp only [if_true]
    rw [Nat.testBit_two_pow_add_eq, Nat.testBit_lt_two_pow hlt]; rfl
theorem wordN_get (x n i : Nat) (h : i < n) : (wordN x n).getD i false = x.testBit (n - 1 - i) := by
 induction n generalizing i with
 | zero => omega
 | succ n ih =>
  unfold wordN
  match i with
  | 0 => rw [List.getD_cons_zero]; rfl
  | i + 1 => rw [List.getD_cons_succ, ih i (by omega)]; congr 1; omega
theorem numW_word {x n : Nat} (h : x < 2 ^ n) : numW (wordN x n) = x := by
 refine row_eq (n := n) (by have := numW_lt (wordN x n); rw [wordN_len] at this; exact this) h fun j hj => ?_
 rw [numW_bit _ _ (by rw [wordN_len]; exact hj), wordN_len, wordN_get _ _ _ (by omega)]
 congr 1; omega
theorem word_num (w : List Bool) : wordN (numW w) w.length = w := by
 apply List.ext_getElem
 ·rw [wordN_len]
 ·intro i h1 h2
  have e := wordN_get (numW w) w.length i h2
  rw [numW_bit _ _ (by omega), show w.length - 1 - (w.length - 1 - i) = i by omega, List.getD_eq_getElem?_getD, List.getD_eq_getElem?_getD, List.getElem?_eq_getElem h1, List.getElem?_eq_getElem h2] at e
  exact e
/-- changes of a row, hook by hook -/
def cntN (f : Nat → Bool) (n : Nat) : Nat := ((List.range n).filter f).length
theorem cntN_succ (f : Nat → Bool) (n : Nat) : cntN f (n + 1) = cntN f n + if f n then 1 else 0 := by
 unfold cntN
 rw [List.range_succ, List.filter_append, List.length_append]
 cases h : f n <;> simp [h]
theorem cntN_congr {f g : Nat → Bool} {n : Nat} (h : ∀ i, i < n → f i = g i) : cntN f n = cntN g n := by
 unfold cntN
 rw [List.filter_congr fun i hi => h i (List.mem_range.1 hi)]
theorem cntN_le (f : Nat → Bool) (n : Nat) : cntN f n ≤ n := by
 unfold cntN
 have := List.length_filter_le f (List.range n)
 simpa using this
def chgN (x y n : Nat) : Nat := cntN (fun h => x.testBit h != y.testBit h) n
theorem chgW_word (row x n : Nat) : chgW row (wordN x n) = chgN x row n := by
 induction n with
 | zero => rfl
 | succ n ih =>
  unfold wordN chgW chgN
  rw [wordN_len, cntN_succ, ih, Nat.add_comm]
  congr 1
  cases row.testBit n <;> cases x.testBit n <;> rfl
/-- points that must stay do -/
def keepN (row fixed x n : Nat) : Prop := ∀ h, h < n → fixed.testBit h = true → x.testBit h = row.testBit h
theorem fixW_word (row fixed x n : Nat) : fixW row fixed (wordN x n) ↔ keepN row fixed x n := by
 induction n with
 | zero => exact ⟨fun _ h hh => by omega, fun _ => trivial⟩
 | succ n ih =>
  unfold wordN fixW
  rw [ih, wordN_len]
  constructor
  ·rintro ⟨h1, h2⟩ h hh hf
   rcases Nat.lt_or_ge h n with h3 | h3
   ·exact h2 h h3 hf
   ·obtain rfl : h = n := by omega
    rcases h1 with h1 | h1
    ·exact h1.symm
    ·rw [h1] at hf; cases hf
  ·intro hk
   refine ⟨?_, fun h hh hf => hk h (by omega) hf⟩
   cases hf : fixed.testBit n with
   | false => exact .inr rfl
   | true => exact .inl (hk n (by omega) hf).symm
/-- a row that can be: bound, with the points kept that must stay -/
structure CanBe (row fixed H b x : Nat) : Prop where
 lt : x < 2 ^ H
 keep : keepN row fixed x H
 bd : BD (wordN x H) b
/-- the smallest row with the fewest changes -/
structure IsBest (row fixed H b x n : Nat) : Prop where
 can : CanBe row fixed H b x
 chg : chgN x row H = n
 min : ∀ y, CanBe row fixed H b y → n ≤ chgN y row H ∧ (chgN y row H = n → x ≤ y)
theorem IsBest.eq {row fixed H b x n y m : Nat} (h : IsBest row fixed H b x n) (h' : IsBest row fixed H b y m) : x = y ∧ n = m := by
 have h1 := h.min y h'.can
 have h2 := h'.min x h.can
 rw [h'.chg] at h1
 rw [h.chg] at h2
 have e : n = m := by omega
 subst e
 have := h1.2 rfl
 have := h2.2 rfl
 exact ⟨by omega, rfl⟩
theorem can_word {row fixed H b y : Nat} (hb : 1 ≤ b) (hH : 1 ≤ H) (h : CanBe row fixed H b y) : ∃ t w, wordN y H = t :: w ∧ w.length = H - 1 ∧ goodW b t 1 0 t w ∧ (row.testBit (H - 1) = t ∨ fixed.testBit (H - 1) = false) ∧ fixW row fixed w ∧ topT row fixed H b t ≤ chgN y row H := by
 obtain ⟨n, rfl⟩ : ∃ n, H = n + 1 := ⟨H - 1, by omega⟩
 have hbd := h.bd
 have hf := (fixW_word row fixed y (n + 1)).2 h.keep
 have hc := chgW_word row y (n + 1)
 have hl := wordN_len y n
 refine ⟨y.testBit n, wordN y n, rfl, hl, ?_, ?_, ?_, ?_⟩
 ·exact (goodW_start hb _ _).2 hbd
 ·have := hf.1
  rw [hl] at this; exact this
 ·exact hf.2
 ·rw [← hc]
  have h1 := least_le _ ((goodW_start hb _ _).2 hbd) hf.2
  unfold wordN chgW topT
  rw [hl] at *
  rw [Nat.add_sub_cancel]
  have hco : costN row fixed n (y.testBit n) = if row.testBit n = y.testBit n then 0 else 1 := by
   unfold costN
   have := hf.1
   rw [wordN_len] at this
   rcases this with h3 | h3
   ·rw [if_pos h3, if_pos h3]
   ·rw [h3]; rfl
  omega
theorem chgN_le (x y n : Nat) : chgN x y n ≤ n := cntN_le _ _
theorem bind_none {row fixed H b : Nat} (hb : 1 ≤ b) (hH : 1 ≤ H) (hH24 : H ≤ 24) (h : never ≤ bindChg row fixed H b) : ∀ y, ¬ CanBe row fixed H b y := by
 intro y hy
 obtain ⟨t, w, _, _, _, _, _, h1⟩ := can_word hb hH hy
 have := chgN_le y row H
 have hnv : never = 1048576 := rfl
 unfold bindChg at h
 cases t <;> omega
theorem bind_best {row fixed H b : Nat} (hb : 1 ≤ b) (hH : 1 ≤ H) (hH24 : H ≤ 24) (h : bindChg row fixed H b < never) : IsBest row fixed H b (bindRow row fixed H b) (bindChg row fixed H b) := by
 obtain ⟨n, rfl⟩ : ∃ n, H = n + 1 := ⟨H - 1, by omega⟩
 have ht : topT row fixed (n + 1) b (bindTop row fixed (n + 1) b) = bindChg row fixed (n + 1) b := by
  unfold bindTop bindChg at *
  by_cases h1 : topT row fixed (n + 1) b true < min never (topT row fixed (n + 1) b false)
  ·rw [decide_eq_true h1]; omega
  ·rw [decide_eq_false h1]; omega
 have hlt : topT row fixed (n + 1) b (bindTop row fixed (n + 1) b) < never := by omega
 have hb2 : ∀ t, bindTop row fixed (n + 1) b = t → ∀ t', topT row fixed (n + 1) b t' = bindChg row fixed (n + 1) b → t = true → t' = true := by
  rintro t h1 t' h2 rfl
  cases t'
  ·unfold bindTop at h1
   have := of_decide_eq_true h1
   unfold bindChg at h2
   omega
  ·rfl
 unfold bindRow topW
 rw [Nat.add_sub_cancel]
 generalize hq : bindTop row fixed (n + 1) b = t at *
 have hT : topT row fixed (n + 1) b t = costN row fixed n t + leastT row fixed b t n 1 0 t := rfl
 obtain ⟨g1, g2, g3⟩ := greedy_good (row := row) (fixed := fixed) (b := b) (top := t) (n := n) (len := 1) (first := 0) (up := t) (by omega)
 have gl := greedy_len row fixed b t n 1 0 t
 have hwl : (t :: greedyW row fixed b t n 1 0 t).length = n + 1 := by rw [List.length_cons, gl]
 have hw := word_num (t :: greedyW row fixed b t n 1 0 t)
 have hnl := numW_lt (t :: greedyW row fixed b t n 1 0 t)
 rw [hwl] at hw hnl
 have hcost : costN row fixed n t < never := by omega
 have hfx : row.testBit n = t ∨ fixed.testBit n = false := by
  unfold costN at hcost
  split at hcost
  ·rename_i h3; exact .inl h3
  ·split at hcost
   ·omega
   ·rename_i h4; exact .inr (by simpa using h4)
 have hc1 : costN row fixed n t = if row.testBit n = t then 0 else 1 := by
  unfold costN
  rcases hfx with h3 | h3
  ·rw [if_pos h3, if_pos h3]
  ·rw [h3]; rfl
 refine ⟨⟨hnl, ?_, ?_⟩, ?_, fun y hy => ?_⟩
 ·rw [← fixW_word, hw]
  refine ⟨?_, g2⟩
  rw [gl]; exact hfx
 ·rw [hw]; exact (goodW_start hb _ _).1 g1
 ·rw [← chgW_word, hw]
  unfold chgW
  rw [gl, g3, ← hc1, ← hT, ht]
 ·obtain ⟨s, w, e1, e2, e3, e4, e5, e6⟩ := can_word hb hH hy
  have hcan := hy
  rw [Nat.add_sub_cancel] at e2
  refine ⟨?_, fun hyc => ?_⟩
  ·unfold bindChg at *
   cases s <;> omega
  ·have hys : topT row fixed (n + 1) b s = bindChg row fixed (n + 1) b := by
    have : bindChg row fixed (n + 1) b ≤ topT row fixed (n + 1) b s := by
     unfold bindChg
     cases s <;> omega
    omega
   have hyn : numW (s :: w) = y := by rw [← e1]; exact numW_word hcan.lt
   rw [← hyn]
   have hcw : chgW row (s :: w) = bindChg row fixed (n + 1) b := by rw [← e1, chgW_word, hyc]
   by_cases hst : t = s
   ·subst hst
    have : chgW row w = leastT row fixed b t w.length 1 0 t := by
     unfold chgW at hcw
     rw [e2] at *
     omega
    have h7 := greedy_least w e3 e5 this
    rw [e2] at h7
    unfold numW
    rw [gl, e2]
    omega
   ·cases s with
    | false =>
     cases t with
     | false => exact absurd rfl hst
     | true => exact absurd (hb2 true rfl false hys rfl) (by simp)
    | true =>
     cases t with
     | true => exact absurd rfl hst
     | false =>
      have h8 := numW_lt (greedyW row fixed b false n 1 0 false)
      rw [gl] at h8
      unfold numW
      simp only [if_true, Bool.false_eq_true, if_false]
      rw [e2]
      omega
end Go.Abs
