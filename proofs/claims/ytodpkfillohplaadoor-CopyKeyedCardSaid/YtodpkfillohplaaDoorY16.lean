/-
 Several texts: Y15, Y16.
-/
import Derived.Test.YtodpkfillohplaaDoorX28
import Derived.Test.YtodpkfillohplaaDoorX20
import Derived.Test.YtodpkfillohplaaDoorW4
import Derived.Test.YtodpkfillohplaaDoorX14
set_option linter.all false
namespace Go.Abs
set_option maxRecDepth 10000
def inB (a b : List Nat) (n : Nat) : Prop := ∀ q, q < n → ∀ j, (atR a q).testBit j = true → (atR b q).testBit j = true
theorem bitsS_zero {x : Nat} : ∀ {n : Nat}, bitsN x n = 0 → ∀ j, j < n → x.testBit j = false
 | 0, _, j, h => by omega
 | n + 1, h, j, hj => by
  rw [bitsN_succ] at h;by_cases e : j = n
  ·subst e
   cases hx : x.testBit j with
   | false => rfl
   | true => rw [hx] at h; simp at h
  ·have h0 : bitsN x n = 0 := by omega
   exact bitsS_zero h0 j (by omega)
theorem bit_high {x hk j : Nat} (hx : x < 2 ^ hk) (h : hk ≤ j) : x.testBit j = false :=
 Nat.testBit_lt_two_pow (Nat.lt_of_lt_of_le hx (Nat.pow_le_pow_right (by omega) h))
theorem xor_turn {t : Bool} {hk a b : Nat} (ha : a < 2 ^ hk) (hb : b < 2 ^ hk) (h : ∀ j, (turnR t hk b).testBit j = true → (turnR t hk a).testBit j = true) : a ^^^ b = subN (turnR t hk a) (turnR t hk b) := by
 apply Nat.eq_of_testBit_eq;intro j;rw [subN_bit, Nat.testBit_xor];have := h j;by_cases hj : j < hk
 ·rw [turnR_bit hj, turnR_bit hj] at this
  rw [turnR_bit hj, turnR_bit hj];cases h1 : a.testBit j <;> cases h2 : b.testBit j <;> cases t <;> simp_all
 ·rw [bit_high ha (by omega), bit_high hb (by omega), bit_high (turnR_lt ha) (show hk ≤ j by omega)]; rfl
theorem diff_lost {a b : DesN} {hk n : Nat} (ha : a.Ok) (hb : b.Ok) (e1 : a.hk = hk) (e2 : b.hk = hk) (ra : a.rows.length = n) (rb : b.rows.length = n) (t : Bool) (h : inB (turnL t hk b.rows) (turnL t hk a.rows) n) : diffN a b = lostN (turnL t hk a.rows) (turnL t hk b.rows) n := by
 have : ∀ i, i ≤ n → diffTo a b i = lostN (turnL t hk a.rows) (turnL t hk b.rows) i := by
  intro i;induction i with
  | zero => intro _; rfl
  | succ i ih =>
   intro hi;have h1 := ih (by omega)
   have h2 := h i (by omega)
   unfold atR at h2;rw [turnL_at _ _ _ (show i < b.rows.length by omega), turnL_at _ _ _ (show i < a.rows.length by omega)] at h2
   have g1 := ha.at (show i < a.rows.length by omega)
   have g2 := hb.at (show i < b.rows.length by omega)
   rw [e1] at g1;rw [e2] at g2;have h3 := xor_turn g1 g2 h2;show diffTo a b i + bitsN (a.rows.getD i 0 ^^^ b.rows.getD i 0) 24 = lostN (turnL t hk a.rows) (turnL t hk b.rows) i + bitsN (subN ((turnL t hk a.rows).getD i 0) ((turnL t hk b.rows).getD i 0)) 24
   rw [h1, turnL_at _ _ _ (show i < b.rows.length by omega), turnL_at _ _ _ (show i < a.rows.length by omega), h3]
 unfold diffN;rw [ra];exact this n (Nat.le_refl _)
def worstS (s : List (List Nat)) (j : List Nat) (n : Nat) : Nat → Nat
 | 0 => 0
 | k + 1 => max (worstS s j n k) (lostV j (s.getD k []) n)
section
variable (x : PressB)
def rowsO (x : PressB) : List Nat := turnL (wayB x) (origN x).hk (origN x).rows
def setsO (x : PressB) (N : Nat) : List (List Nat) := setsN (wayB x) (origN x).hk (madeTo x N).l
def joinO (x : PressB) (N : Nat) : List Nat := joinN (setsO x N) (origN x).rows.length
theorem joinO_in {N : Nat} : inB (joinO x N) (rowsO x) (origN x).rows.length := fun _ hq _ hj => join_in x hq hj
end
theorem full_at {hk n q j : Nat} (hq : q < n) (hj : j < hk) : ((fullN hk n).getD q 0).testBit j = true := by
 rw [rows_get (by simpa [fullN] using hq)]
 simp [fullN, Nat.testBit_two_pow_sub_one, hj]
theorem bit_in {l : List Nat} {hk n q j : Nat} (hl : l.length = n) (h : ∀ r ∈ l, r < 2 ^ hk) (hb : (l.getD q 0).testBit j = true) : q < n ∧ j < hk := by
 have hq : q < n := by
  rcases Nat.lt_or_ge q n with g | g
  ·exact g
  ·rw [List.getD_eq_getElem?_getD, List.getElem?_eq_none (by omega)] at hb; simp at hb
 refine ⟨hq, ?_⟩;rcases Nat.lt_or_ge j hk with g | g
 ·exact g
 ·rw [rows_get (by omega), bit_high (h _ (List.getElem_mem _)) g] at hb; cases hb
theorem turnL_lt {t : Bool} {hk : Nat} {l : List Nat} (h : ∀ r ∈ l, r < 2 ^ hk) : ∀ r ∈ turnL t hk l, r < 2 ^ hk := fun r hr => by
 obtain ⟨y, hy, rfl⟩ := List.mem_map.1 hr;exact turnR_lt (h y hy)
end Go.Abs
set_option linter.all false
namespace Go.Abs
set_option maxRecDepth 10000
theorem diffTo_comm (a b : DesN) : ∀ i, diffTo a b i = diffTo b a i
 | 0 => rfl
 | i + 1 => by
  unfold diffTo;rw [diffTo_comm a b i, Nat.xor_comm]
theorem diffN_comm {a b : DesN} (h : a.rows.length = b.rows.length) : diffN a b = diffN b a := by
 unfold diffN;rw [h]; exact diffTo_comm a b _
section
variable {l l' : List DesN} {hk n : Nat}
end
def maskL (x : List Nat) : Nat := x.foldl (fun a k => a ||| 2 ^ k) 0
theorem u8_bit : ∀ (b : Fin 256) (k : Fin 8), IntKind.wrap .u8 ((BitVec.ofInt (IntKind.bits .u8) (Int.fdiv (b.1 : Int) (2 ^ min k.1 (IntKind.bits .u8))) &&& BitVec.ofInt (IntKind.bits .u8) 1).toNat : Int) = if b.1.testBit k.1 then 1 else 0 := by decide +kernel
end Go.Abs
