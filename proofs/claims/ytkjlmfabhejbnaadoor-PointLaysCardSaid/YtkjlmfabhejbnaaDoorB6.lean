/-
 The bits of a word: what math/bits answers. No condition beyond those that each theorem names.
-/
import Derived.Test.YtkjlmfabhejbnaaDoorM20
import Derived.Test.YtkjlmfabhejbnaaDoorP1
set_option linter.all false
namespace Go.Abs
set_option maxRecDepth 10000
set_option maxHeartbeats 4000000
theorem bits64u : IntKind.bits .u64 = 64 := rfl
theorem wu_nat {n : Nat} (h : n < 18446744073709551616) : IntKind.wrap .u64 (n : Int) = (n : Int) := wrap_u64 (by omega) (by omega)
theorem u_and (a b : Nat) (ha : a < 18446744073709551616) (hb : b < 18446744073709551616) : IntKind.wrap .u64 ((BitVec.ofInt (IntKind.bits .u64) (a : Int) &&& BitVec.ofInt (IntKind.bits .u64) (b : Int)).toNat : Int) = ((a &&& b : Nat) : Int) := by
 rw [bits64u, ofInt_nat, ofInt_nat, BitVec.toNat_and, BitVec.toNat_ofNat, BitVec.toNat_ofNat, Nat.mod_eq_of_lt (by omega), Nat.mod_eq_of_lt (by omega)]
 exact wu_nat (Nat.lt_of_le_of_lt Nat.and_le_left ha)
theorem u_shr (a i : Nat) (hi : i < 64) : Int.fdiv (a : Int) (2 ^ min i (IntKind.bits .u64)) = ((a / 2 ^ i : Nat) : Int) := by
 rw [bits64u, Nat.min_eq_left (by omega), Int.fdiv_eq_ediv_of_nonneg _ (Int.pow_nonneg (by omega))]
 simp
theorem OnesCount64_ok (x : Nat) (hx : x < 2 ^ 24) : lim F 63 [.int .u64 (x : Int)] = some (iv ((bitsN x 24 : Nat) : Int), []) := by
 have hs := swar x hx;have h1 : Int.fdiv (x : Int) (2 ^ min 1 (IntKind.bits .u64)) = ((x / 2 : Nat) : Int) := u_shr x 1 (by omega)
 have a1 : IntKind.wrap .u64 ((BitVec.ofInt (IntKind.bits .u64) ((x / 2 : Nat) : Int) &&& BitVec.ofInt (IntKind.bits .u64) 6148914691236517205).toNat : Int) = ((x / 2 &&& 6148914691236517205 : Nat) : Int) := u_and (x / 2) 6148914691236517205 (by omega) (by omega)
 have a2 : IntKind.wrap .u64 ((BitVec.ofInt (IntKind.bits .u64) (x : Int) &&& BitVec.ofInt (IntKind.bits .u64) 6148914691236517205).toNat : Int) = ((x &&& 6148914691236517205 : Nat) : Int) := u_and x 6148914691236517205 (by omega) (by omega)
 generalize (x / 2 &&& 6148914691236517205) = y1 at *;generalize (x &&& 6148914691236517205) = y2 at *;dsimp only at hs;obtain ⟨hy, hz, ht, hr, hle⟩ := hs;have e1 : (y1 : Int) + (y2 : Int) = ((y1 + y2 : Nat) : Int) := by omega
 generalize y1 + y2 = y at *;have w1 := wu_nat (n := y) (by omega)
 have h2 : Int.fdiv (y : Int) (2 ^ min 2 (IntKind.bits .u64)) = ((y / 4 : Nat) : Int) := u_shr y 2 (by omega)
 have b1 : IntKind.wrap .u64 ((BitVec.ofInt (IntKind.bits .u64) ((y / 4 : Nat) : Int) &&& BitVec.ofInt (IntKind.bits .u64) 3689348814741910323).toNat : Int) = ((y / 4 &&& 3689348814741910323 : Nat) : Int) := u_and (y / 4) 3689348814741910323 (by omega) (by omega)
 have b2 : IntKind.wrap .u64 ((BitVec.ofInt (IntKind.bits .u64) (y : Int) &&& BitVec.ofInt (IntKind.bits .u64) 3689348814741910323).toNat : Int) = ((y &&& 3689348814741910323 : Nat) : Int) := u_and y 3689348814741910323 (by omega) (by omega)
 generalize (y / 4 &&& 3689348814741910323) = z1 at *;generalize (y &&& 3689348814741910323) = z2 at *;have e2 : (z1 : Int) + (z2 : Int) = ((z1 + z2 : Nat) : Int) := by omega
 generalize z1 + z2 = z at *;have w2 := wu_nat (n := z) (by omega)
 have h3 : Int.fdiv (z : Int) (2 ^ min 4 (IntKind.bits .u64)) = ((z / 16 : Nat) : Int) := u_shr z 4 (by omega)
 have e3 : ((z / 16 : Nat) : Int) + (z : Int) = ((z / 16 + z : Nat) : Int) := by omega
 have hq : z / 16 + z < 2 ^ 30 := by omega
 generalize z / 16 + z = q at *;have w3 := wu_nat (n := q) (by omega)
 have c1 : IntKind.wrap .u64 ((BitVec.ofInt (IntKind.bits .u64) (q : Int) &&& BitVec.ofInt (IntKind.bits .u64) 1085102592571150095).toNat : Int) = ((q &&& 1085102592571150095 : Nat) : Int) := u_and q 1085102592571150095 (by omega) (by omega)
 generalize (q &&& 1085102592571150095) = t at *;have h4 : Int.fdiv (t : Int) (2 ^ min 8 (IntKind.bits .u64)) = ((t / 256 : Nat) : Int) := u_shr t 8 (by omega)
 have e4 : (t : Int) + ((t / 256 : Nat) : Int) = ((t + t / 256 : Nat) : Int) := by omega
 have hu : t + t / 256 < 2 ^ 30 := by omega
 generalize t + t / 256 = u at *;have w4 := wu_nat (n := u) (by omega)
 have h5 : Int.fdiv (u : Int) (2 ^ min 16 (IntKind.bits .u64)) = ((u / 65536 : Nat) : Int) := u_shr u 16 (by omega)
 have e5 : (u : Int) + ((u / 65536 : Nat) : Int) = ((u + u / 65536 : Nat) : Int) := by omega
 have hv : u + u / 65536 < 2 ^ 31 := by omega
 generalize u + u / 65536 = v at *;have w5 := wu_nat (n := v) (by omega)
 have h6 : Int.fdiv (v : Int) (2 ^ min 32 (IntKind.bits .u64)) = ((v / 4294967296 : Nat) : Int) := u_shr v 32 (by omega)
 have e6 : (v : Int) + ((v / 4294967296 : Nat) : Int) = ((v + v / 4294967296 : Nat) : Int) := by omega
 have hw : v + v / 4294967296 < 2 ^ 32 := by omega
 generalize v + v / 4294967296 = m at *;have w6 := wu_nat (n := m) (by omega)
 have i6 : IntKind.wrap .i64 (m : Int) = m := wrap_nat (by omega)
 have d1 : IntKind.wrap .i64 ((BitVec.ofInt (IntKind.bits .i64) (m : Int) &&& BitVec.ofInt (IntKind.bits .i64) 127).toNat : Int) = ((m &&& 127 : Nat) : Int) := w_and m 127 (by omega) (by omega)
 have hm : m &&& 127 = m % 128 := Nat.and_two_pow_sub_one_eq_mod m 7;rw [hm, hr] at d1;refine lim_by (fn := a63) (k := 1) (res := [.tmp 2]) rfl rfl rfl (by simp -implicitDefEqProofs (maxSteps := 2000000) (disch := first | exact tt_rfl rfl | omega | (simp only [go_sem] <;> omega) | fail) only [go_sem]) ?_
 try delta mvA
 try delta opA
 try delta tA
 simp -implicitDefEqProofs (maxSteps := 2000000) (disch := first | exact tt_rfl rfl | omega | (simp only [go_sem] <;> omega) | fail) only [go_sem]
 repeat (first | apply Wp.seqA | apply Wp.skipS | apply Wp.blockS | ((first | apply Wp.regS | apply Wp.condV | apply Wp.reg | apply Wp.condW | apply fin_ret); simp -implicitDefEqProofs (maxSteps := 2000000) (disch := first | exact tt_rfl rfl | omega | (simp only [go_sem] <;> omega) | fail) only [go_sem, h1, a1, a2, e1, w1, h2, b1, b2, e2, w2, h3, e3, w3, c1, h4, e4, w4, h5, e5, w5, h6, e6, w6, i6, d1] <;> try with_reducible rfl) | apply Wp.block | apply Wp.exitS | apply Wp.retS | apply Wp.exit | apply Wp.ret | apply Wp.skip)
theorem OnesCount_ok (x : Nat) (hx : x < 2 ^ 24) : lim F 38 [.int .u64 (x : Int)] = some (iv ((bitsN x 24 : Nat) : Int), []) := by
 have h := OnesCount64_ok x hx;have w : IntKind.wrap .u64 (x : Int) = x := wu_nat (by omega)
 refine lim_by (fn := a38) (k := 1) (res := [.tmp 2]) rfl rfl rfl (by simp -implicitDefEqProofs (maxSteps := 2000000) (disch := first | exact tt_rfl rfl | omega | (simp only [go_sem] <;> omega) | fail) only [go_sem]) ?_
 try delta mvA
 try delta opA
 try delta tA
 simp -implicitDefEqProofs (maxSteps := 2000000) (disch := first | exact tt_rfl rfl | omega | (simp only [go_sem] <;> omega) | fail) only [go_sem]
 repeat (first | apply Wp.seqA | apply Wp.skipS | apply Wp.blockS | ((first | apply Wp.regS | apply Wp.condV | apply Wp.reg | apply Wp.condW | apply fin_ret); simp -implicitDefEqProofs (maxSteps := 2000000) (disch := first | exact tt_rfl rfl | omega | (simp only [go_sem] <;> omega) | fail) only [go_sem, h, w] <;> try with_reducible rfl) | apply Wp.block | apply Wp.exitS | apply Wp.retS | apply Wp.exit | apply Wp.ret | apply Wp.skip)
theorem TrailingZeros64_ok (x k : Nat) (hx : x < 2 ^ 24) (hk : LowBit x k) : lim F 61 [.int .u64 (x : Int)] = some (iv (k : Int), []) := by
 have hk24 := hk.lt hx;have h0 : x ≠ 0 := by
  rintro rfl;have := hk.at';rw [Nat.zero_testBit] at this; cases this
 have ht := low_tab hk (by omega)
 rw [hk.neg (by omega)] at ht
 have hn : IntKind.wrap .u64 (0 - (x : Int)) = ((2 ^ 64 - x : Nat) : Int) := by
  have : IntKind.wrap .u64 (0 - (x : Int)) = (0 - (x : Int)) % 18446744073709551616 := by simp [IntKind.wrap, IntKind.signed, IntKind.bits]
  rw [this]; omega
 have a1 := u_and x (2 ^ 64 - x) (by omega) (by omega)
 rw [hk.neg (by omega)] at a1
 generalize 2 ^ 64 - x = nx at *;have m1 : IntKind.wrap .u64 (((2 ^ k : Nat) : Int) * 285870213051353865) = ((2 ^ k * 285870213051353865 % 2 ^ 64 : Nat) : Int) := by
  have : IntKind.wrap .u64 (((2 ^ k : Nat) : Int) * 285870213051353865) = (((2 ^ k : Nat) : Int) * 285870213051353865) % 18446744073709551616 := by simp [IntKind.wrap, IntKind.signed, IntKind.bits]
  rw [this]; omega
 generalize 2 ^ k = p at *;have hmlt := Nat.mod_lt (p * 285870213051353865) (show 0 < 2 ^ 64 by omega)
 generalize p * 285870213051353865 % 2 ^ 64 = q at *;have h58 : Int.fdiv (q : Int) (2 ^ min 58 (IntKind.bits .u64)) = ((q / 2 ^ 58 : Nat) : Int) := u_shr q 58 (by omega)
 have hlt : q / 2 ^ 58 < 64 := by omega
 have hg : tab64V[q / 2 ^ 58]? = some (.int .u8 (k : Int)) := by
  have e : tab64V = tab64.map fun n : Nat => AV.int .u8 (n : Int) := by rfl
  rw [e, List.getElem?_map, ht]; rfl
 generalize q / 2 ^ 58 = ix at *;unfold tab64V at hg;have ik : IntKind.wrap .i64 (k : Int) = k := wrap_nat (by omega)
 refine lim_by (fn := a61) (k := 1) (res := [.tmp 2]) rfl rfl rfl (by simp -implicitDefEqProofs (maxSteps := 2000000) (disch := first | exact tt_rfl rfl | omega | (simp only [go_sem] <;> omega) | fail) only [go_sem]) ?_
 try delta mvA
 try delta opA
 try delta tA
 simp -implicitDefEqProofs (maxSteps := 2000000) (disch := first | exact tt_rfl rfl | omega | (simp only [go_sem] <;> omega) | fail) only [go_sem]
 repeat (first | apply Wp.seqA | apply Wp.skipS | apply Wp.blockS | ((first | apply Wp.regS | apply Wp.condV | apply Wp.reg | apply Wp.condW | apply fin_ret); simp -implicitDefEqProofs (maxSteps := 2000000) (disch := first | exact tt_rfl rfl | omega | (simp only [go_sem] <;> omega) | fail) only [go_sem, hn, a1, m1, h58, hg, ik, show ¬ (x : Int) = 0 by omega, show (ix : Int) < ((64 : Nat) : Int) by omega, show ix ≤ 63 by omega, Nat.mul_one, Int.toNat_natCast] <;> try with_reducible rfl) | apply Wp.block | apply Wp.exitS | apply Wp.retS | apply Wp.exit | apply Wp.ret | apply Wp.skip)
theorem TrailingZeros_ok (x k : Nat) (hx : x < 2 ^ 24) (hk : LowBit x k) : lim F 37 [.int .u64 (x : Int)] = some (iv (k : Int), []) := by
 have h := TrailingZeros64_ok x k hx hk;refine lim_by (fn := a37) (k := 1) (res := [.tmp 2]) rfl rfl rfl (by simp -implicitDefEqProofs (maxSteps := 2000000) (disch := first | exact tt_rfl rfl | omega | (simp only [go_sem] <;> omega) | fail) only [go_sem]) ?_
 try delta mvA
 try delta opA
 try delta tA
 simp -implicitDefEqProofs (maxSteps := 2000000) (disch := first | exact tt_rfl rfl | omega | (simp only [go_sem] <;> omega) | fail) only [go_sem]
 repeat (first | apply Wp.seqA | apply Wp.skipS | apply Wp.blockS | ((first | apply Wp.regS | apply Wp.condV | apply Wp.reg | apply Wp.condW | apply fin_ret); simp -implicitDefEqProofs (maxSteps := 2000000) (disch := first | exact tt_rfl rfl | omega | (simp only [go_sem] <;> omega) | fail) only [go_sem, h] <;> try with_reducible rfl) | apply Wp.block | apply Wp.exitS | apply Wp.retS | apply Wp.exit | apply Wp.ret | apply Wp.skip)
end Go.Abs
