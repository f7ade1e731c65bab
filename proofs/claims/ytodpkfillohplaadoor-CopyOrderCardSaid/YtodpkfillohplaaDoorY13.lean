/-
 Several texts: Y11, Y12, Y13.
-/
import Derived.Test.YtodpkfillohplaaDoorW4
import Derived.Test.YtodpkfillohplaaDoorX10
set_option linter.all false
namespace Go.Abs

/-- one bit more -/
theorem bits_more {x y h : Nat} (hx : x.testBit h = false) (hy : y.testBit h = true) (he : ∀ j, j ≠ h → y.testBit j = x.testBit j) : ∀ n, bitsN y n = bitsN x n + if h < n then 1 else 0
 | 0 => by simp [bitsN]
 | n + 1 => by
  rw [bitsN_succ, bitsN_succ, bits_more hx hy he n]
  by_cases e : n = h
  ·subst e
   rw [hx, hy, if_neg (by omega), if_pos (by omega)]; rfl
  ·rw [he n e]
   by_cases e2 : h < n
   ·rw [if_pos e2, if_pos (by omega)]; omega
   ·rw [if_neg e2, if_neg (by omega)]; omega
theorem lostT_one {a b b' : Nat → Nat} {i : Nat} (he : ∀ q, q ≠ i → b' q = b q) : ∀ n, i < n → lostT a b' n + bitsN (subN (a i) (b i)) 24 = lostT a b n + bitsN (subN (a i) (b' i)) 24
 | 0, h => by omega
 | n + 1, h => by
  have same : ∀ m, m ≤ i → lostT a b' m = lostT a b m := by
   intro m hm
   induction m with
   | zero => rfl
   | succ m ih => unfold lostT; rw [ih (by omega), he m (by omega)]
  unfold lostT
  by_cases e : n = i
  ·subst e
   rw [same n (Nat.le_refl _)]; omega
  ·have := lostT_one (a := a) he n (by omega)
   rw [he n e]; omega
theorem lostT_self (a : Nat → Nat) : ∀ n, lostT a a n = 0
 | 0 => rfl
 | n + 1 => by
  unfold lostT
  rw [lostT_self a n]
  have : subN (a n) (a n) = 0 := subN_zero.2 fun _ h => h
  rw [this]; simp [bitsN]
/-- a copy's turned rows lie within those of what it was made of -/
theorem chg_within (t : Bool) {d : DesN} (hd : d.Ok) (c : ByteB × ByteB × ByteB) : ∀ k q j, q < d.rows.length → j < d.hk → (((chgTo t d c k).1.getD q 0).testBit j ^^ t) = true → ((d.rows.getD q 0).testBit j ^^ t) = true
 | 0, _, _, _, _, h => h
 | k + 1, q, j, hq, hj, h => by
  unfold chgTo at h
  split at h
  ·rename_i hb
   rw [List.getD_eq_getElem?_getD, List.getElem?_set] at h
   split at h
   ·rename_i e
    split at h
    ·simp only [Option.getD_some] at h
     rw [Nat.testBit_xor, Nat.testBit_two_pow] at h
     by_cases ej : chgH d c k = j
     ·subst ej
      subst e
      unfold chgB at hb
      exact chg_within t hd c k _ _ hq hj hb
     ·subst e
      refine chg_within t hd c k _ _ hq hj ?_
      simpa [ej] using h
    ·rename_i hlt
     rw [chgTo_len] at hlt
     exact absurd (e ▸ hq) hlt
   ·exact chg_within t hd c k q j hq hj (by rw [List.getD_eq_getElem?_getD]; exact h)
  ·exact chg_within t hd c k q j hq hj h
theorem turnR_other {t : Bool} {hk r h j : Nat} (e : j ≠ h) : (turnR t hk (r ^^^ 2 ^ h)).testBit j = (turnR t hk r).testBit j := by
 unfold turnR
 split
 ·rw [Nat.testBit_xor, Nat.testBit_xor, Nat.testBit_xor, Nat.testBit_two_pow]
  simp [Ne.symm e]
 ·rw [Nat.testBit_xor, Nat.testBit_two_pow]
  simp [Ne.symm e]
theorem turnR_this {t : Bool} {hk r h : Nat} (hh : h < hk) : (turnR t hk (r ^^^ 2 ^ h)).testBit h = !(turnR t hk r).testBit h := by
 rw [turnR_bit hh, turnR_bit hh, Nat.testBit_xor, Nat.testBit_two_pow]
 simp
/-- as many points are lost as were changed -/
theorem chg_lost (t : Bool) {d : DesN} (hd : d.Ok) (c : ByteB × ByteB × ByteB) : ∀ k, lostN (turnL t d.hk d.rows) (turnL t d.hk (chgTo t d c k).1) d.rows.length = (chgTo t d c k).2
 | 0 => by
  unfold lostN chgTo
  exact lostT_self _ _
 | k + 1 => by
  have ih := chg_lost t hd c k
  unfold chgTo
  split
  ·rename_i hb
   have hi : chgI d c k < d.rows.length := Nat.mod_lt _ hd.r1
   have hh : chgH d c k < d.hk := Nat.mod_lt _ hd.h1
   have hi2 : chgI d c k < (chgTo t d c k).1.length := by rw [chgTo_len]; exact hi
   have hset : turnL t d.hk ((chgTo t d c k).1.set (chgI d c k) ((chgTo t d c k).1.getD (chgI d c k) 0 ^^^ 2 ^ chgH d c k)) = (turnL t d.hk (chgTo t d c k).1).set (chgI d c k) (turnR t d.hk ((chgTo t d c k).1.getD (chgI d c k) 0 ^^^ 2 ^ chgH d c k)) := by
    unfold turnL; rw [List.map_set]
   simp only
   rw [hset]
   unfold lostN at ih ⊢
   have he : ∀ q, q ≠ chgI d c k → atR ((turnL t d.hk (chgTo t d c k).1).set (chgI d c k) (turnR t d.hk ((chgTo t d c k).1.getD (chgI d c k) 0 ^^^ 2 ^ chgH d c k))) q = atR (turnL t d.hk (chgTo t d c k).1) q := fun q hq => by
    unfold atR
    rw [List.getD_eq_getElem?_getD, List.getElem?_set_ne (Ne.symm hq), ← List.getD_eq_getElem?_getD]
   have hone := lostT_one (a := atR (turnL t d.hk d.rows)) he d.rows.length hi
   have hb1 : atR ((turnL t d.hk (chgTo t d c k).1).set (chgI d c k) (turnR t d.hk ((chgTo t d c k).1.getD (chgI d c k) 0 ^^^ 2 ^ chgH d c k))) (chgI d c k) = turnR t d.hk ((chgTo t d c k).1.getD (chgI d c k) 0 ^^^ 2 ^ chgH d c k) := by
    unfold atR
    rw [List.getD_eq_getElem?_getD, List.getElem?_set_self (by simpa using hi2)]; rfl
   have hb0 : atR (turnL t d.hk (chgTo t d c k).1) (chgI d c k) = turnR t d.hk ((chgTo t d c k).1.getD (chgI d c k) 0) := turnL_at t d.hk _ hi2
   have ha0 : atR (turnL t d.hk d.rows) (chgI d c k) = turnR t d.hk (d.rows.getD (chgI d c k) 0) := turnL_at t d.hk _ hi
   have hbit : (turnR t d.hk ((chgTo t d c k).1.getD (chgI d c k) 0)).testBit (chgH d c k) = true := by
    rw [turnR_bit hh]; exact hb
   have habit : (turnR t d.hk (d.rows.getD (chgI d c k) 0)).testBit (chgH d c k) = true := by
    rw [turnR_bit hh]; exact chg_within t hd c k _ _ hi hh hb
   have h24 := hd.h24
   have hmore := bits_more (x := subN (turnR t d.hk (d.rows.getD (chgI d c k) 0)) (turnR t d.hk ((chgTo t d c k).1.getD (chgI d c k) 0))) (y := subN (turnR t d.hk (d.rows.getD (chgI d c k) 0)) (turnR t d.hk ((chgTo t d c k).1.getD (chgI d c k) 0 ^^^ 2 ^ chgH d c k))) (h := chgH d c k)
    (by rw [subN_bit, hbit]; simp) (by rw [subN_bit, turnR_this hh, hbit, habit]; rfl) (fun j hj => by rw [subN_bit, subN_bit, turnR_other hj]) 24
   rw [if_pos (by omega)] at hmore
   rw [hb1, hb0, ha0, hmore] at hone
   omega
  ·exact ih
end Go.Abs

set_option linter.all false
namespace Go.Abs

theorem treeV_spec (s : List (List Nat)) (j : List Nat) (n i : Nat) : ∀ k,
  (((treeV s j n i k).1 = -1 ∧ (treeV s j n i k).2 = lostV j (s.getD i []) n) ∨ ∃ q, q < k ∧ (treeV s j n i k).1 = (q : Int) ∧ subB (s.getD q []) (s.getD i []) n = true ∧ (treeV s j n i k).2 = lostV (s.getD q []) (s.getD i []) n ∧ (treeV s j n i k).2 < lostV j (s.getD i []) n) ∧
  (treeV s j n i k).2 ≤ lostV j (s.getD i []) n ∧
  ∀ q, q < k → subB (s.getD q []) (s.getD i []) n = true → (treeV s j n i k).2 < lostV (s.getD q []) (s.getD i []) n ∨ ((treeV s j n i k).2 = lostV (s.getD q []) (s.getD i []) n ∧ (treeV s j n i k).1 ≤ (q : Int))
 | 0 => ⟨.inl ⟨rfl, rfl⟩, Nat.le_refl _, fun q h => by omega⟩
 | k + 1 => by
  obtain ⟨h1, h2, h3⟩ := treeV_spec s j n i k
  unfold treeV
  by_cases hc : subB (s.getD k []) (s.getD i []) n = true ∧ lostV (s.getD k []) (s.getD i []) n < (treeV s j n i k).2
  ·rw [if_pos hc]
   refine ⟨.inr ⟨k, by omega, rfl, hc.1, rfl, by simp only; omega⟩, by simp only; omega, fun q hq hs => ?_⟩
   simp only
   by_cases e : q = k
   ·subst e; exact .inr ⟨rfl, Int.le_refl _⟩
   ·rcases h3 q (by omega) hs with h | ⟨h, _⟩ <;> exact .inl (by omega)
  ·rw [if_neg hc]
   refine ⟨?_, h2, fun q hq hs => ?_⟩
   ·rcases h1 with h1 | ⟨q, a1, a2⟩
    ·exact .inl h1
    ·exact .inr ⟨q, by omega, a2⟩
   ·by_cases e : q = k
    ·subst e
     have hle : (treeV s j n i q).2 ≤ lostV (s.getD q []) (s.getD i []) n := by
      apply Nat.le_of_not_lt
      exact fun hlt => hc ⟨hs, hlt⟩
     by_cases e2 : (treeV s j n i q).2 = lostV (s.getD q []) (s.getD i []) n
     ·refine .inr ⟨e2, ?_⟩
      rcases h1 with ⟨a, _⟩ | ⟨p, a1, a2, _⟩ <;> omega
     ·exact .inl (by omega)
    ·exact h3 q (by omega) hs

/-- copies, one after another, all lie within the original -/
def InO (x : PressB) (d : DesN) : Prop := ∀ q j, q < (origN x).rows.length → j < (origN x).hk → ((d.rows.getD q 0).testBit j ^^ wayB x) = true → (((origN x).rows.getD q 0).testBit j ^^ wayB x) = true
theorem parS_in {x : PressB} {l : List DesN} {i : Nat} (h : ∀ d ∈ l, InO x d) : InO x (parS x l i) := by
 unfold parS
 split
 ·exact fun _ _ _ _ h => h
 ·rw [List.getD_eq_getElem?_getD]
  cases e : l[(csrc x i).1.1 % (i + 1) - 1]? with
  | none => exact fun _ _ _ _ h => h
  | some d => exact h d (List.mem_of_getElem? e)
theorem madeTo_in (x : PressB) : ∀ i, ∀ d ∈ (madeTo x i).l, InO x d
 | 0, d, h => by cases h
 | i + 1, d, h => by
  have ih := madeTo_in x i
  have hl := parS_like (x := x) (i := i) (madeTo_like x i)
  rcases List.mem_append.1 h with h | h
  ·exact ih d h
  ·rw [List.mem_singleton.1 h]
   intro q j hq hj hb
   exact parS_in ih q j hq hj (chg_within (wayB x) hl.ok (csrc x i) (chgN (csrc x i)) q j (by rw [hl.rows]; exact hq) (by rw [hl.hk]; exact hj) hb)
end Go.Abs

set_option linter.all false
namespace Go.Abs

theorem bits_mono {x y : Nat} (h : ∀ j, x.testBit j = true → y.testBit j = true) : ∀ n, bitsN x n ≤ bitsN y n
 | 0 => by simp [bitsN]
 | n + 1 => by
  have := bits_mono h n
  rw [bitsN_succ, bitsN_succ]
  have h1 := h n
  cases e : x.testBit n with
  | false => simp; omega
  | true => rw [h1 e]; omega
theorem lostT_mono {a a' b : Nat → Nat} : ∀ {n : Nat}, (∀ q, q < n → ∀ j, (a q).testBit j = true → (a' q).testBit j = true) → lostT a b n ≤ lostT a' b n
 | 0, _ => Nat.le_refl _
 | n + 1, h => by
  have h1 := lostT_mono (b := b) (n := n) fun q hq => h q (by omega)
  have h2 := bits_mono (x := subN (a n) (b n)) (y := subN (a' n) (b n)) (fun j hj => by
   rw [subN_bit] at hj ⊢
   simp only [Bool.and_eq_true] at hj ⊢
   exact ⟨h n (by omega) j hj.1, hj.2⟩) 24
  unfold lostT
  omega
theorem madeTo_get (x : PressB) : ∀ N i, i < N → (madeTo x N).l[i]? = some (chgD (wayB x) (parS x (madeTo x i).l i) (csrc x i))
 | 0, i, h => by omega
 | N + 1, i, h => by
  have hl := (madeTo_len x N).1
  by_cases e : i = N
  ·subst e
   simp only [madeTo]
   rw [List.getElem?_append_right (by omega), hl, Nat.sub_self]; rfl
  ·simp only [madeTo]
   rw [List.getElem?_append_left (by omega)]
   exact madeTo_get x N i (by omega)
theorem madeTo_pre (x : PressB) {N i k : Nat} (hi : i ≤ N) (hk : k < i) : (madeTo x i).l[k]? = (madeTo x N).l[k]? := by
 rw [madeTo_get x i k hk, madeTo_get x N k (by omega)]
theorem madeTo_sets (x : PressB) {N : Nat} (h1 : 1 ≤ N) (h10 : N ≤ 10) : SetsOk (madeTo x N).l (origN x).hk (origN x).rows.length where
 l1 := by rw [(madeTo_len x N).1]; exact h1
 l10 := by rw [(madeTo_len x N).1]; exact h10
 ok := fun d hd => (madeTo_like x N d hd).ok
 hk := fun d hd => (madeTo_like x N d hd).hk
 rows := fun d hd => (madeTo_like x N d hd).rows
/-- what is joined lies within the original -/
theorem join_in (x : PressB) {N q j : Nat} (hq : q < (origN x).rows.length) (h : (atR (joinN (setsN (wayB x) (origN x).hk (madeTo x N).l) (origN x).rows.length) q).testBit j = true) : (atR (turnL (wayB x) (origN x).hk (origN x).rows) q).testBit j = true := by
 have e : atR (joinN (setsN (wayB x) (origN x).hk (madeTo x N).l) (origN x).rows.length) q = joinAt (setsN (wayB x) (origN x).hk (madeTo x N).l) q := by
  unfold atR joinN
  rw [rows_get (by simpa using hq)]; simp
 rw [e] at h
 unfold joinAt setsN at h
 rw [orAll_bit, List.any_map, List.any_map] at h
 obtain ⟨d, hd, hb⟩ := List.any_eq_true.1 h
 have hl := madeTo_like x N d hd
 simp only [Function.comp] at hb
 have hq2 : q < d.rows.length := by rw [hl.rows]; exact hq
 have e1 : atR (turnL (wayB x) (origN x).hk d.rows) q = turnR (wayB x) (origN x).hk (d.rows.getD q 0) := turnL_at _ _ _ hq2
 have e2 : atR (turnL (wayB x) (origN x).hk (origN x).rows) q = turnR (wayB x) (origN x).hk ((origN x).rows.getD q 0) := turnL_at _ _ _ hq
 rw [e1] at hb
 rw [e2]
 have hlt : d.rows.getD q 0 < 2 ^ (origN x).hk := by rw [← hl.hk]; exact hl.ok.at hq2
 by_cases hj : j < (origN x).hk
 ·rw [turnR_bit hj] at hb ⊢
  exact madeTo_in x N d hd q j hq hj hb
 ·rw [Nat.testBit_lt_two_pow (Nat.lt_of_lt_of_le (turnR_lt hlt) (Nat.pow_le_pow_right (by omega) (by omega)))] at hb
  cases hb
/-- a copy lost just what was changed, of what it was made of -/
theorem made_lost (x : PressB) (i : Nat) : lostN (turnL (wayB x) (origN x).hk (parS x (madeTo x i).l i).rows) (turnL (wayB x) (origN x).hk (chgD (wayB x) (parS x (madeTo x i).l i) (csrc x i)).rows) (origN x).rows.length = (chgTo (wayB x) (parS x (madeTo x i).l i) (csrc x i) (chgN (csrc x i))).2 ∧
  subB (turnL (wayB x) (origN x).hk (parS x (madeTo x i).l i).rows) (turnL (wayB x) (origN x).hk (chgD (wayB x) (parS x (madeTo x i).l i) (csrc x i)).rows) (origN x).rows.length = true := by
 have hl := parS_like (x := x) (i := i) (madeTo_like x i)
 have h1 := chg_lost (wayB x) hl.ok (csrc x i) (chgN (csrc x i))
 rw [hl.hk, hl.rows] at h1
 refine ⟨h1, ?_⟩
 unfold subB
 refine List.all_eq_true.2 fun q hq => decide_eq_true (subN_zero.2 fun j hj => ?_)
 have hq := List.mem_range.1 hq
 have hq2 : q < (parS x (madeTo x i).l i).rows.length := by rw [hl.rows]; exact hq
 have hq3 : q < (chgD (wayB x) (parS x (madeTo x i).l i) (csrc x i)).rows.length := by simpa [chgD] using hq2
 have hc := hl.chg (wayB x) (csrc x i)
 have e1 : atR (turnL (wayB x) (origN x).hk (parS x (madeTo x i).l i).rows) q = turnR (wayB x) (origN x).hk ((parS x (madeTo x i).l i).rows.getD q 0) := turnL_at _ _ _ hq2
 have e2 : atR (turnL (wayB x) (origN x).hk (chgD (wayB x) (parS x (madeTo x i).l i) (csrc x i)).rows) q = turnR (wayB x) (origN x).hk ((chgD (wayB x) (parS x (madeTo x i).l i) (csrc x i)).rows.getD q 0) := turnL_at _ _ _ hq3
 rw [e2] at hj
 rw [e1]
 have hlt : (chgD (wayB x) (parS x (madeTo x i).l i) (csrc x i)).rows.getD q 0 < 2 ^ (origN x).hk := by rw [← hc.hk]; exact hc.ok.at hq3
 by_cases hjk : j < (origN x).hk
 ·rw [turnR_bit hjk] at hj ⊢
  exact chg_within (wayB x) hl.ok (csrc x i) (chgN (csrc x i)) q j hq2 (by rw [hl.hk]; exact hjk) hj
 ·rw [Nat.testBit_lt_two_pow (Nat.lt_of_lt_of_le (turnR_lt hlt) (Nat.pow_le_pow_right (by omega) (by omega)))] at hj
  cases hj
end Go.Abs
