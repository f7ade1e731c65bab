/-
 Chapter 12: the truth lies between what is sure and what can be: plain laws.
-/
import Derived.Test.YtodpkfillohplaaDoorX28
import Derived.Test.YtodpkfillohplaaDoorX19
import Derived.Test.YtodpkfillohplaaDoorW3
set_option linter.all false
namespace Go.Abs
set_option maxRecDepth 10000
def inB (a b : List Nat) (n : Nat) : Prop := ∀ q, q < n → ∀ j, (atR a q).testBit j = true → (atR b q).testBit j = true
theorem subB_in {a b : List Nat} {n : Nat} : subB a b n = true ↔ inB b a n := by
 unfold subB inB;rw [List.all_eq_true];constructor
 ·intro h q hq
  exact subN_zero.1 (of_decide_eq_true (h q (List.mem_range.2 hq)))
 ·intro h q hq
  exact decide_eq_true (subN_zero.2 (h q (List.mem_range.1 hq)))
theorem bitsS_split {o j s : Nat} (h1 : ∀ i, s.testBit i = true → j.testBit i = true) (h2 : ∀ i, j.testBit i = true → o.testBit i = true) : ∀ n, bitsN (subN o s) n = bitsN (subN j s) n + bitsN (subN o j) n
 | 0 => by simp [bitsN]
 | n + 1 => by
  have := bitsS_split h1 h2 n;rw [bitsN_succ, bitsN_succ, bitsN_succ, subN_bit, subN_bit, subN_bit, this];have a := h1 n;have b := h2 n;cases hs : s.testBit n <;> cases hj : j.testBit n <;> cases ho : o.testBit n <;> simp_all <;> omega
theorem lostT_split {o j s : Nat → Nat} : ∀ {n : Nat}, (∀ q, q < n → (∀ i, (s q).testBit i = true → (j q).testBit i = true) ∧ ∀ i, (j q).testBit i = true → (o q).testBit i = true) → lostT o s n = lostT j s n + lostT o j n
 | 0, _ => rfl
 | n + 1, h => by
  have h1 := lostT_split (n := n) fun q hq => h q (by omega)
  have h2 := bitsS_split (h n (by omega)).1 (h n (by omega)).2 24
  unfold lostT;omega
theorem lostS_split {o j s : List Nat} {n : Nat} (h1 : inB s j n) (h2 : inB j o n) : lostN o s n = lostN j s n + lostN o j n :=
 lostT_split fun q hq => ⟨h1 q hq, h2 q hq⟩
theorem bitsS_zero {x : Nat} : ∀ {n : Nat}, bitsN x n = 0 → ∀ j, j < n → x.testBit j = false
 | 0, _, j, h => by omega
 | n + 1, h, j, hj => by
  rw [bitsN_succ] at h;by_cases e : j = n
  ·subst e
   cases hx : x.testBit j with
   | false => rfl
   | true => rw [hx] at h; simp at h
  ·have h0 : bitsN x n = 0 := by omega
   exact bitsS_zero h0 j (by omega)
theorem bit_high {x hk j : Nat} (hx : x < 2 ^ hk) (h : hk ≤ j) : x.testBit j = false :=
 Nat.testBit_lt_two_pow (Nat.lt_of_lt_of_le hx (Nat.pow_le_pow_right (by omega) h))
theorem lostT_zero {a b : Nat → Nat} : ∀ {n : Nat}, (∀ q, q < n → a q < 2 ^ 24) → lostT a b n = 0 → ∀ q, q < n → ∀ j, (a q).testBit j = true → (b q).testBit j = true
 | 0, _, _, q, h => by omega
 | n + 1, ha, h, q, hq => by
  unfold lostT at h;by_cases e : q = n
  ·subst e
   intro j hj;have hj24 : j < 24 := by
    rcases Nat.lt_or_ge j 24 with g | g
    ·exact g
    ·rw [bit_high (ha q (by omega)) g] at hj; cases hj
   have h0 : bitsN (subN (a q) (b q)) 24 = 0 := by omega
   have := bitsS_zero h0 j hj24;rw [subN_bit, hj] at this;simpa using this
  ·have h0 : lostT a b n = 0 := by omega
   exact lostT_zero (fun q hq => ha q (by omega)) h0 q (by omega)
theorem lost_zero {a b : List Nat} {n : Nat} (ha : ∀ q, q < n → atR a q < 2 ^ 24) (h : lostN a b n = 0) : inB a b n := lostT_zero ha h
theorem xor_turn {t : Bool} {hk a b : Nat} (ha : a < 2 ^ hk) (hb : b < 2 ^ hk) (h : ∀ j, (turnR t hk b).testBit j = true → (turnR t hk a).testBit j = true) : a ^^^ b = subN (turnR t hk a) (turnR t hk b) := by
 apply Nat.eq_of_testBit_eq;intro j;rw [subN_bit, Nat.testBit_xor];have := h j;by_cases hj : j < hk
 ·rw [turnR_bit hj, turnR_bit hj] at this
  rw [turnR_bit hj, turnR_bit hj];cases h1 : a.testBit j <;> cases h2 : b.testBit j <;> cases t <;> simp_all
 ·rw [bit_high ha (by omega), bit_high hb (by omega), bit_high (turnR_lt ha) (show hk ≤ j by omega)]; rfl
theorem diff_lost {a b : DesN} {hk n : Nat} (ha : a.Ok) (hb : b.Ok) (e1 : a.hk = hk) (e2 : b.hk = hk) (ra : a.rows.length = n) (rb : b.rows.length = n) (t : Bool) (h : inB (turnL t hk b.rows) (turnL t hk a.rows) n) : diffN a b = lostN (turnL t hk a.rows) (turnL t hk b.rows) n := by
 have : ∀ i, i ≤ n → diffTo a b i = lostN (turnL t hk a.rows) (turnL t hk b.rows) i := by
  intro i;induction i with
  | zero => intro _; rfl
  | succ i ih =>
   intro hi;have h1 := ih (by omega)
   have h2 := h i (by omega)
   unfold atR at h2;rw [turnL_at _ _ _ (show i < b.rows.length by omega), turnL_at _ _ _ (show i < a.rows.length by omega)] at h2
   have g1 := ha.at (show i < a.rows.length by omega)
   have g2 := hb.at (show i < b.rows.length by omega)
   rw [e1] at g1;rw [e2] at g2;have h3 := xor_turn g1 g2 h2;show diffTo a b i + bitsN (a.rows.getD i 0 ^^^ b.rows.getD i 0) 24 = lostN (turnL t hk a.rows) (turnL t hk b.rows) i + bitsN (subN ((turnL t hk a.rows).getD i 0) ((turnL t hk b.rows).getD i 0)) 24
   rw [h1, turnL_at _ _ _ (show i < b.rows.length by omega), turnL_at _ _ _ (show i < a.rows.length by omega), h3]
 unfold diffN;rw [ra];exact this n (Nat.le_refl _)
theorem set_join {l : List DesN} {hk n : Nat} (t : Bool) {d : DesN} (hd : d ∈ l) : inB (turnL t hk d.rows) (joinN (setsN t hk l) n) n := by
 intro q hq j hj;have ea : atR (joinN (setsN t hk l) n) q = joinAt (setsN t hk l) q := by
  unfold atR joinN;rw [rows_get (by simpa using hq)]; simp
 rw [ea];unfold joinAt;rw [orAll_bit, List.any_map];exact List.any_eq_true.2 ⟨turnL t hk d.rows, List.mem_map_of_mem hd, hj⟩
theorem inB_trans {a b c : List Nat} {n : Nat} (h1 : inB a b n) (h2 : inB b c n) : inB a c n := fun q hq j hj => h2 q hq j (h1 q hq j hj)
theorem lostV_in {a b : List Nat} {n : Nat} (h : inB b a n) : lostV a b n = lostN a b n := by
 unfold lostV;rw [if_pos (subB_in.2 h)]
def worstS (s : List (List Nat)) (j : List Nat) (n : Nat) : Nat → Nat
 | 0 => 0
 | k + 1 => max (worstS s j n k) (lostV j (s.getD k []) n)
theorem moreS (s : List (List Nat)) (j : List Nat) (n : Nat) (most : Int) : ∀ k, moreTo s j n most k = most - (worstS s j n k : Nat)
 | 0 => by simp [moreTo, worstS]
 | k + 1 => by
  have h := moreS s j n most k;unfold moreTo worstS;omega
section
variable (x : PressB)
def rowsO (x : PressB) : List Nat := turnL (wayB x) (origN x).hk (origN x).rows
def setsO (x : PressB) (N : Nat) : List (List Nat) := setsN (wayB x) (origN x).hk (madeTo x N).l
def joinO (x : PressB) (N : Nat) : List Nat := joinN (setsO x N) (origN x).rows.length
theorem joinO_in {N : Nat} : inB (joinO x N) (rowsO x) (origN x).rows.length := fun _ hq _ hj => join_in x hq hj
theorem diff_most {N i : Nat} (hi : i < N) (d : DesN) (hd : (madeTo x N).l[i]? = some d) : inB (turnL (wayB x) (origN x).hk d.rows) (joinO x N) (origN x).rows.length ∧ diffN (origN x) d = lostN (rowsO x) (turnL (wayB x) (origN x).hk d.rows) (origN x).rows.length ∧ diffN (origN x) d = lostV (joinO x N) ((setsO x N).getD i []) (origN x).rows.length + lostN (rowsO x) (joinO x N) (origN x).rows.length ∧ (setsO x N).getD i [] = turnL (wayB x) (origN x).hk d.rows := by
 have hm := List.mem_of_getElem? hd;have hl := madeTo_like x N d hm;have h1 : inB (turnL (wayB x) (origN x).hk d.rows) (joinO x N) (origN x).rows.length := set_join _ hm;have h2 := diff_lost (orig_ok x) hl.ok rfl hl.hk rfl hl.rows (wayB x) (inB_trans h1 (joinO_in x));have h3 : (setsO x N).getD i [] = turnL (wayB x) (origN x).hk d.rows := sets_at hd;refine ⟨h1, h2, ?_, h3⟩;rw [h3, lostV_in h1, h2];exact lostS_split h1 (joinO_in x)
theorem most_split {N : Nat} : ∀ m, 1 ≤ m → m ≤ N → (madeTo x m).most = worstS (setsO x N) (joinO x N) (origN x).rows.length m + lostN (rowsO x) (joinO x N) (origN x).rows.length
 | 0, h, _ => by omega
 | m + 1, _, h => by
  have hg := madeTo_get x N m (by omega)
  obtain ⟨_, _, h3, _⟩ := diff_most x (show m < N by omega) _ hg
  show max (madeTo x m).most (diffN (origN x) (chgD (wayB x) (parS x (madeTo x m).l m) (csrc x m))) = max (worstS (setsO x N) (joinO x N) (origN x).rows.length m) (lostV (joinO x N) ((setsO x N).getD m []) (origN x).rows.length) + _
  by_cases e : m = 0
  ·subst e
   simp only [madeTo, worstS] at h3 ⊢;omega
  ·have := most_split (N := N) m (by omega) (by omega)
   omega
end
end Go.Abs
