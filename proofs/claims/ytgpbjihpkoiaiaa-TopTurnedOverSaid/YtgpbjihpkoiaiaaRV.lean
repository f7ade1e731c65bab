/-
 math/bits.Reverse64, and rows with their hooks the other way round. No condition beyond those that each theorem names.
-/
import Derived.Test.YtgpbjihpkoiaiaaCS
set_option linter.all false
namespace Go.Abs
set_option maxRecDepth 10000
set_option maxHeartbeats 4000000
theorem bits64w : IntKind.bits .u64 = 64 := rfl
theorem wv_nat {n : Nat} (h : n < 18446744073709551616) : IntKind.wrap .u64 (n : Int) = (n : Int) := wrap_u64 (by omega) (by omega)
theorem v_and (a b : Nat) (ha : a < 18446744073709551616) (hb : b < 18446744073709551616) : IntKind.wrap .u64 ((BitVec.ofInt (IntKind.bits .u64) (a : Int) &&& BitVec.ofInt (IntKind.bits .u64) (b : Int)).toNat : Int) = ((a &&& b : Nat) : Int) := by
 rw [bits64w, ofInt_nat, ofInt_nat, BitVec.toNat_and, BitVec.toNat_ofNat, BitVec.toNat_ofNat, Nat.mod_eq_of_lt (by omega), Nat.mod_eq_of_lt (by omega)]
 exact wv_nat (Nat.lt_of_le_of_lt Nat.and_le_left ha)
theorem v_or (a b : Nat) (ha : a < 18446744073709551616) (hb : b < 18446744073709551616) : IntKind.wrap .u64 ((BitVec.ofInt (IntKind.bits .u64) (a : Int) ||| BitVec.ofInt (IntKind.bits .u64) (b : Int)).toNat : Int) = ((a ||| b : Nat) : Int) := by
 rw [bits64w, ofInt_nat, ofInt_nat, BitVec.toNat_or, BitVec.toNat_ofNat, BitVec.toNat_ofNat, Nat.mod_eq_of_lt (by omega), Nat.mod_eq_of_lt (by omega)]
 exact wv_nat (Nat.or_lt_two_pow (n := 64) ha hb)
theorem v_shr (a i : Nat) (hi : i < 64) : Int.fdiv (a : Int) (2 ^ min i (IntKind.bits .u64)) = ((a / 2 ^ i : Nat) : Int) := by
 rw [bits64w, Nat.min_eq_left (by omega), Int.fdiv_eq_ediv_of_nonneg _ (Int.pow_nonneg (by omega))]
 simp
theorem v_shl (a i : Nat) (hi : i < 64) : IntKind.wrap .u64 ((a : Int) * 2 ^ min i (IntKind.bits .u64)) = ((a * 2 ^ i % 18446744073709551616 : Nat) : Int) := by
 rw [bits64w, Nat.min_eq_left (by omega)]
 have e : (a : Int) * 2 ^ i = ((a * 2 ^ i : Nat) : Int) := by simp
 rw [e];generalize a * 2 ^ i = q;have : IntKind.wrap .u64 (q : Int) = (q : Int) % 18446744073709551616 := by simp [IntKind.wrap, IntKind.signed, IntKind.bits]
 rw [this]; omega
def swN (s m x : Nat) : Nat := (x / 2 ^ s &&& m) ||| ((x &&& m) * 2 ^ s % 18446744073709551616)
theorem swN_lt {s m x : Nat} (hm : m < 18446744073709551616) : swN s m x < 18446744073709551616 := Nat.or_lt_two_pow (n := 64) (Nat.lt_of_le_of_lt Nat.and_le_right hm) (Nat.mod_lt _ (by omega))
def swOk (s m : Nat) : Bool := (List.range 64).all fun i => if m.testBit i then i ^^^ s == i + s && (decide (i < s) || !m.testBit (i - s)) else decide (s ≤ i) && i ^^^ s == i - s && m.testBit (i - s)
theorem swN_bit {s m x i : Nat} (h : swOk s m = true) (hi : i < 64) : (swN s m x).testBit i = x.testBit (i ^^^ s) := by
 have h1 := List.all_eq_true.1 h i (by simpa using hi)
 unfold swN;rw [Nat.testBit_or, Nat.testBit_and, Nat.testBit_div_two_pow, show (18446744073709551616 : Nat) = 2 ^ 64 from rfl, Nat.testBit_mod_two_pow, decide_eq_true hi, Bool.true_and, Nat.testBit_mul_two_pow, Nat.testBit_and]
 by_cases hm : m.testBit i = true
 ·rw [if_pos hm] at h1
  simp only [Bool.and_eq_true, Bool.or_eq_true, beq_iff_eq, decide_eq_true_eq, Bool.not_eq_true'] at h1;rw [h1.1, hm, Bool.and_true];rcases h1.2 with h2 | h2
  ·simp [show ¬ s ≤ i by omega]
  ·simp [h2]
 ·rw [Bool.not_eq_true] at hm
  simp only [hm, Bool.false_eq_true, if_false, Bool.and_eq_true, beq_iff_eq, decide_eq_true_eq] at h1;rw [h1.1.2, hm, h1.2, decide_eq_true h1.1.1];simp
def lastN (x : Nat) : Nat := x / 2 ^ 32 ||| (x * 2 ^ 32 % 18446744073709551616)
theorem lastN_bit {x i : Nat} (hx : x < 18446744073709551616) (hi : i < 64) : (lastN x).testBit i = x.testBit (i ^^^ 32) := by
 unfold lastN;rw [Nat.testBit_or, Nat.testBit_div_two_pow, show (18446744073709551616 : Nat) = 2 ^ 64 from rfl, Nat.testBit_mod_two_pow, decide_eq_true hi, Bool.true_and, Nat.testBit_mul_two_pow]
 have hk : (List.range 64).all (fun i => if i < 32 then i ^^^ 32 == i + 32 else i ^^^ 32 == i - 32) = true := by decide
 have h1 := List.all_eq_true.1 hk i (by simpa using hi)
 by_cases h : i < 32
 ·rw [if_pos h] at h1
  rw [beq_iff_eq.1 h1, decide_eq_false (by omega)]
  simp
 ·rw [if_neg h] at h1
  rw [beq_iff_eq.1 h1, decide_eq_true (by omega)]
  have : x.testBit (i + 32) = false := Nat.testBit_lt_two_pow (Nat.lt_of_lt_of_le hx (show 2 ^ 64 ≤ 2 ^ (i + 32) from Nat.pow_le_pow_right (by omega) (by omega)))
  rw [this]; simp
def revB (x : Nat) : Nat := lastN (swN 16 281470681808895 (swN 8 71777214294589695 x))
def revN (x : Nat) : Nat := revB (swN 4 1085102592571150095 (swN 2 3689348814741910323 (swN 1 6148914691236517205 x)))
theorem revN_bit {x i : Nat} (hi : i < 64) : (revN x).testBit i = x.testBit (63 - i) := by
 have hk : (List.range 64).all (fun i => decide (i ^^^ 32 < 64) && decide (i ^^^ 32 ^^^ 16 < 64) && decide (i ^^^ 32 ^^^ 16 ^^^ 8 < 64) && decide (i ^^^ 32 ^^^ 16 ^^^ 8 ^^^ 4 < 64) && decide (i ^^^ 32 ^^^ 16 ^^^ 8 ^^^ 4 ^^^ 2 < 64) && i ^^^ 32 ^^^ 16 ^^^ 8 ^^^ 4 ^^^ 2 ^^^ 1 == 63 - i) = true := by decide
 have h1 := List.all_eq_true.1 hk i (by simpa using hi)
 simp only [Bool.and_eq_true, decide_eq_true_eq, beq_iff_eq] at h1;unfold revN revB;rw [lastN_bit (swN_lt (by omega)) hi, swN_bit (by decide) h1.1.1.1.1.1, swN_bit (by decide) h1.1.1.1.1.2, swN_bit (by decide) h1.1.1.1.2, swN_bit (by decide) h1.1.1.2, swN_bit (by decide) h1.1.2, h1.2]
theorem lastN_lt {x : Nat} (hx : x < 18446744073709551616) : lastN x < 18446744073709551616 := Nat.or_lt_two_pow (n := 64) (Nat.lt_of_le_of_lt (Nat.div_le_self _ _) hx) (Nat.mod_lt _ (by omega))
theorem revN_lt (x : Nat) : revN x < 18446744073709551616 := lastN_lt (swN_lt (by omega))
theorem RevBytes_ok (x : Nat) (hx : x < 18446744073709551616) : lim F 197 [.int .u64 (x : Int)] = some (.int .u64 (revB x : Int), []) := by
 have a1 := v_shr x 8 (by omega)
 have a2 := v_and (x / 2 ^ 8) 71777214294589695 (by omega) (by omega)
 have a3 := v_and x 71777214294589695 hx (by omega)
 rw [show ((71777214294589695 : Nat) : Int) = 71777214294589695 from rfl] at a2 a3
 have a4 := v_shl (x &&& 71777214294589695) 8 (by omega)
 have a5 := v_or (x / 2 ^ 8 &&& 71777214294589695) ((x &&& 71777214294589695) * 2 ^ 8 % 18446744073709551616) (Nat.lt_of_le_of_lt Nat.and_le_right (by omega)) (Nat.mod_lt _ (by omega))
 have hy := swN_lt (s := 8) (m := 71777214294589695) (x := x) (by omega)
 have ey : revB x = lastN (swN 16 281470681808895 (swN 8 71777214294589695 x)) := rfl;rw [ey];change _ = ((swN 8 71777214294589695 x : Nat) : Int) at a5;generalize swN 8 71777214294589695 x = y at *;generalize (x &&& 71777214294589695) * 2 ^ 8 % 18446744073709551616 = p1 at *;generalize (x &&& 71777214294589695) = p2 at *;generalize (x / 2 ^ 8 &&& 71777214294589695) = p3 at *;generalize x / 2 ^ 8 = p4 at *;have b1 := v_shr y 16 (by omega)
 have b2 := v_and (y / 2 ^ 16) 281470681808895 (by omega) (by omega)
 have b3 := v_and y 281470681808895 hy (by omega)
 rw [show ((281470681808895 : Nat) : Int) = 281470681808895 from rfl] at b2 b3
 have b4 := v_shl (y &&& 281470681808895) 16 (by omega)
 have b5 := v_or (y / 2 ^ 16 &&& 281470681808895) ((y &&& 281470681808895) * 2 ^ 16 % 18446744073709551616) (Nat.lt_of_le_of_lt Nat.and_le_right (by omega)) (Nat.mod_lt _ (by omega))
 have hz := swN_lt (s := 16) (m := 281470681808895) (x := y) (by omega)
 change _ = ((swN 16 281470681808895 y : Nat) : Int) at b5;generalize swN 16 281470681808895 y = z at *;generalize (y &&& 281470681808895) * 2 ^ 16 % 18446744073709551616 = q1 at *;generalize (y &&& 281470681808895) = q2 at *;generalize (y / 2 ^ 16 &&& 281470681808895) = q3 at *;generalize y / 2 ^ 16 = q4 at *;have c1 := v_shr z 32 (by omega)
 have c4 := v_shl z 32 (by omega)
 have c5 := v_or (z / 2 ^ 32) (z * 2 ^ 32 % 18446744073709551616) (by omega) (Nat.mod_lt _ (by omega))
 change _ = ((lastN z : Nat) : Int) at c5;generalize lastN z = w at *;generalize z * 2 ^ 32 % 18446744073709551616 = r1 at *;generalize z / 2 ^ 32 = r2 at *;refine lim_by (fn := a197) (k := 1) (res := [.tmp 2]) rfl rfl rfl (by simp -implicitDefEqProofs (maxSteps := 2000000) (disch := first | exact tt_rfl rfl | omega | (simp only [go_sem] <;> omega) | fail) only [go_sem]) ?_
 try delta mvA
 try delta opA
 try delta tA
 simp -implicitDefEqProofs (maxSteps := 2000000) (disch := first | exact tt_rfl rfl | omega | (simp only [go_sem] <;> omega) | fail) only [go_sem]
 repeat (first | apply Wp.seqA | apply Wp.skipS | apply Wp.blockS | ((first | apply Wp.regS | apply Wp.condV | apply Wp.reg | apply Wp.condW | apply fin_ret); simp -implicitDefEqProofs (maxSteps := 2000000) (disch := first | exact tt_rfl rfl | omega | (simp only [go_sem] <;> omega) | fail) only [go_sem, a1, a2, a3, a4, a5, b1, b2, b3, b4, b5, c1, c4, c5] <;> try with_reducible rfl) | apply Wp.block | apply Wp.exitS | apply Wp.retS | apply Wp.exit | apply Wp.ret | apply Wp.skip)
theorem Reverse64_ok (x : Nat) (hx : x < 18446744073709551616) : lim F 188 [.int .u64 (x : Int)] = some (.int .u64 (revN x : Int), []) := by
 have a1 := v_shr x 1 (by omega)
 have a2 := v_and (x / 2 ^ 1) 6148914691236517205 (by omega) (by omega)
 have a3 := v_and x 6148914691236517205 hx (by omega)
 rw [show ((6148914691236517205 : Nat) : Int) = 6148914691236517205 from rfl] at a2 a3
 have a4 := v_shl (x &&& 6148914691236517205) 1 (by omega)
 have a5 := v_or (x / 2 ^ 1 &&& 6148914691236517205) ((x &&& 6148914691236517205) * 2 ^ 1 % 18446744073709551616) (Nat.lt_of_le_of_lt Nat.and_le_right (by omega)) (Nat.mod_lt _ (by omega))
 have hy := swN_lt (s := 1) (m := 6148914691236517205) (x := x) (by omega)
 have ey : revN x = revB (swN 4 1085102592571150095 (swN 2 3689348814741910323 (swN 1 6148914691236517205 x))) := rfl;rw [ey];change _ = ((swN 1 6148914691236517205 x : Nat) : Int) at a5;generalize swN 1 6148914691236517205 x = y at *;generalize (x &&& 6148914691236517205) * 2 ^ 1 % 18446744073709551616 = p1 at *;generalize (x &&& 6148914691236517205) = p2 at *;generalize (x / 2 ^ 1 &&& 6148914691236517205) = p3 at *;generalize x / 2 ^ 1 = p4 at *;have b1 := v_shr y 2 (by omega)
 have b2 := v_and (y / 2 ^ 2) 3689348814741910323 (by omega) (by omega)
 have b3 := v_and y 3689348814741910323 hy (by omega)
 rw [show ((3689348814741910323 : Nat) : Int) = 3689348814741910323 from rfl] at b2 b3
 have b4 := v_shl (y &&& 3689348814741910323) 2 (by omega)
 have b5 := v_or (y / 2 ^ 2 &&& 3689348814741910323) ((y &&& 3689348814741910323) * 2 ^ 2 % 18446744073709551616) (Nat.lt_of_le_of_lt Nat.and_le_right (by omega)) (Nat.mod_lt _ (by omega))
 have hz := swN_lt (s := 2) (m := 3689348814741910323) (x := y) (by omega)
 change _ = ((swN 2 3689348814741910323 y : Nat) : Int) at b5;generalize swN 2 3689348814741910323 y = z at *;generalize (y &&& 3689348814741910323) * 2 ^ 2 % 18446744073709551616 = q1 at *;generalize (y &&& 3689348814741910323) = q2 at *;generalize (y / 2 ^ 2 &&& 3689348814741910323) = q3 at *;generalize y / 2 ^ 2 = q4 at *;have c1 := v_shr z 4 (by omega)
 have c2 := v_and (z / 2 ^ 4) 1085102592571150095 (by omega) (by omega)
 have c3 := v_and z 1085102592571150095 hz (by omega)
 rw [show ((1085102592571150095 : Nat) : Int) = 1085102592571150095 from rfl] at c2 c3
 have c4 := v_shl (z &&& 1085102592571150095) 4 (by omega)
 have c5 := v_or (z / 2 ^ 4 &&& 1085102592571150095) ((z &&& 1085102592571150095) * 2 ^ 4 % 18446744073709551616) (Nat.lt_of_le_of_lt Nat.and_le_right (by omega)) (Nat.mod_lt _ (by omega))
 have hw := swN_lt (s := 4) (m := 1085102592571150095) (x := z) (by omega)
 change _ = ((swN 4 1085102592571150095 z : Nat) : Int) at c5;have hR := RevBytes_ok _ hw;generalize swN 4 1085102592571150095 z = w at *;generalize (z &&& 1085102592571150095) * 2 ^ 4 % 18446744073709551616 = r1 at *;generalize (z &&& 1085102592571150095) = r2 at *;generalize (z / 2 ^ 4 &&& 1085102592571150095) = r3 at *;generalize z / 2 ^ 4 = r4 at *;refine lim_by (fn := a188) (k := 1) (res := [.tmp 2]) rfl rfl rfl (by simp -implicitDefEqProofs (maxSteps := 2000000) (disch := first | exact tt_rfl rfl | omega | (simp only [go_sem] <;> omega) | fail) only [go_sem]) ?_
 try delta mvA
 try delta opA
 try delta tA
 simp -implicitDefEqProofs (maxSteps := 2000000) (disch := first | exact tt_rfl rfl | omega | (simp only [go_sem] <;> omega) | fail) only [go_sem]
 repeat (first | apply Wp.seqA | apply Wp.skipS | apply Wp.blockS | ((first | apply Wp.regS | apply Wp.condV | apply Wp.reg | apply Wp.condW | apply fin_ret); simp -implicitDefEqProofs (maxSteps := 2000000) (disch := first | exact tt_rfl rfl | omega | (simp only [go_sem] <;> omega) | fail) only [go_sem, a1, a2, a3, a4, a5, b1, b2, b3, b4, b5, c1, c2, c3, c4, c5, hR] <;> try with_reducible rfl) | apply Wp.block | apply Wp.exitS | apply Wp.retS | apply Wp.exit | apply Wp.ret | apply Wp.skip)
def mirRv (hk r : Nat) : Nat := rowTo (fun h => r.testBit (hk - 1 - h)) hk
theorem revN_row {hk r : Nat} (h1 : 1 ≤ hk) (h2 : hk ≤ 24) (hr : r < 2 ^ hk) : revN r / 2 ^ (64 - hk) = mirRv hk r := by
 apply Nat.eq_of_testBit_eq;intro i;unfold mirRv;rw [Nat.testBit_div_two_pow, rowTo_bit];by_cases hi : i < hk
 ·rw [revN_bit (show i + (64 - hk) < 64 by omega), decide_eq_true hi, Bool.true_and, show 63 - (i + (64 - hk)) = hk - 1 - i by omega]
 ·rw [decide_eq_false hi, Bool.false_and]
  exact Nat.testBit_lt_two_pow (Nat.lt_of_lt_of_le (revN_lt r) (show 2 ^ 64 ≤ 2 ^ (i + (64 - hk)) from Nat.pow_le_pow_right (by omega) (by omega)))
theorem mirror_rowv (hk : Nat) (h1 : 1 ≤ hk) (h24 : hk ≤ 24) (r : Nat) (hr : r < 2 ^ hk) : lim F 153 [iv (hk : Int), iv (r : Int)] = some (iv (mirRv hk r : Int), []) := by
 have p1 : 2 ^ hk ≤ 2 ^ 24 := Nat.pow_le_pow_right (by omega) h24
 have hR := Reverse64_ok r (by omega)
 have w1 := wv_nat (n := r) (by omega)
 have w2 := wv_nat (n := hk) (by omega)
 have w3 : IntKind.wrap .u64 ((64 : Int) - (hk : Int)) = ((64 - hk : Nat) : Int) := by
  rw [show (64 : Int) - (hk : Int) = ((64 - hk : Nat) : Int) by omega]
  exact wv_nat (by omega)
 have s1 := v_shr (revN r) (64 - hk) (by omega)
 rw [revN_row h1 h24 hr] at s1;have hm : mirRv hk r < 2 ^ hk := rowTo_lt _ _;have w4 := wrap_nat (n := mirRv hk r) (by omega)
 generalize mirRv hk r = m at *;generalize revN r = v at *;refine lim_by (fn := a153) (k := 2) (res := [.tmp 4]) rfl rfl rfl (by simp -implicitDefEqProofs (maxSteps := 2000000) (disch := first | exact tt_rfl rfl | omega | (simp only [go_sem] <;> omega) | fail) only [go_sem]) ?_
 try delta mvA
 try delta opA
 try delta tA
 simp -implicitDefEqProofs (maxSteps := 2000000) (disch := first | exact tt_rfl rfl | omega | (simp only [go_sem] <;> omega) | fail) only [go_sem]
 repeat (first | apply Wp.seqA | apply Wp.skipS | apply Wp.blockS | ((first | apply Wp.regS | apply Wp.condV | apply Wp.reg | apply Wp.condW | apply fin_ret); simp -implicitDefEqProofs (maxSteps := 2000000) (disch := first | exact tt_rfl rfl | omega | (simp only [go_sem] <;> omega) | fail) only [go_sem, w1, w2, w3, w4, hR, s1, Int.toNat_natCast] <;> try with_reducible rfl) | apply Wp.block | apply Wp.exitS | apply Wp.retS | apply Wp.exit | apply Wp.ret | apply Wp.skip)
end Go.Abs
