/-
 Several texts: M21, M23.
-/
import Derived.Test.YtkjlmfabhejbnaaDoorM20
import Derived.Test.YtkjlmfabhejbnaaDoorV3
set_option linter.all false
namespace Go.Abs
set_option maxRecDepth 10000
end Go.Abs
set_option linter.all false
namespace Go.Abs
set_option maxRecDepth 10000
def xorAt (a b : DesN) (i : Nat) : Nat := a.rows.getD i 0 ^^^ b.rows.getD i 0
def manyT (a b : DesN) : Nat → Nat
 | 0 => 0
 | i + 1 => manyT a b i + bitsN (xorAt a b i) 24
noncomputable def lowN (x : Nat) : Nat := open Classical in if h : x ≠ 0 then (low_ex h).choose else 0
theorem lowN_is {x : Nat} (h : x ≠ 0) : LowBit x (lowN x) := by
 unfold lowN;rw [dif_pos h];exact (low_ex h).choose_spec
noncomputable def firstT (a b : DesN) : Nat → Nat × Nat
 | 0 => (0, 0)
 | i + 1 => if manyT a b i = 0 ∧ xorAt a b i ≠ 0 then (i, lowN (xorAt a b i)) else firstT a b i
theorem xorAt_lt {a b : DesN} (ha : a.Ok) (hb : b.Ok) {i : Nat} (h1 : i < a.rows.length) (h2 : i < b.rows.length) : xorAt a b i < 2 ^ 24 := by
 have x1 := ha.lt _ (List.getElem_mem h1);have x2 := hb.lt _ (List.getElem_mem h2);have p1 : 2 ^ a.hk ≤ 2 ^ 24 := Nat.pow_le_pow_right (by omega) ha.h24
 have p2 : 2 ^ b.hk ≤ 2 ^ 24 := Nat.pow_le_pow_right (by omega) hb.h24
 unfold xorAt;rw [rows_get h1, rows_get h2];exact Nat.xor_lt_two_pow (by omega) (by omega)
theorem bitsN_le (x n : Nat) : bitsN x n ≤ n := by
 unfold bitsN;exact Nat.le_trans (List.length_filter_le _ _) (by simp)
theorem manyT_le (a b : DesN) : ∀ i, manyT a b i ≤ 24 * i
 | 0 => Nat.le_refl _
 | i + 1 => by
  have := manyT_le a b i;have := bitsN_le (xorAt a b i) 24;unfold manyT;omega
end Go.Abs
