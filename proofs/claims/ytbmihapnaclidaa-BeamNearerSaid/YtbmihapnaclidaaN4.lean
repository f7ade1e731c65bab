/-
  Chapter 6: which wheels are nearer, by 128 bits. No condition beyond those that each theorem names.
-/
import Derived.Test.YtbmihapnaclidaaB2
import Derived.Test.YtbmihapnaclidaaW1
set_option linter.all false
namespace Go.Abs
set_option maxRecDepth 10000
set_option maxHeartbeats 2000000

theorem w_mask (a : Nat) (h : a < 18446744073709551616) : IntKind.wrap .u64 ((BitVec.ofInt (IntKind.bits .u64) (a : Int) &&& BitVec.ofInt (IntKind.bits .u64) 4294967295).toNat : Int) = ((a % 4294967296 : Nat) : Int) := by
  have e1 : BitVec.ofInt 64 (a : Int) = BitVec.ofNat 64 a := by
    apply BitVec.eq_of_toNat_eq
    simp [BitVec.toNat_ofInt]
  have e2 : BitVec.ofInt 64 4294967295 = BitVec.ofNat 64 4294967295 := rfl
  rw [show IntKind.bits .u64 = 64 from rfl, e1, e2, BitVec.toNat_and, BitVec.toNat_ofNat, BitVec.toNat_ofNat, Nat.mod_eq_of_lt (by omega), Nat.mod_eq_of_lt (by omega), show (4294967295 : Nat) = 2 ^ 32 - 1 from rfl, Nat.and_two_pow_sub_one_eq_mod]
  exact wrap_u64 (by omega) (by have : a % 2 ^ 32 < 2 ^ 32 := Nat.mod_lt _ (by omega); omega)
theorem w_shr32 (a : Nat) : Int.fdiv (a : Int) (2 ^ min 32 (IntKind.bits .u64)) = ((a / 4294967296 : Nat) : Int) := by
  rw [show min 32 (IntKind.bits .u64) = 32 from rfl, Int.fdiv_eq_ediv_of_nonneg _ (by omega)]
  omega

theorem mul64_ok (x y : Nat) (hx : x < 9223372036854775808) (hy : y < 4294967296) (hxy : x * y < 9223372036854775808) : lim F 107 [.int .u64 (x : Int), .int .u64 (y : Int)] = some (.tuple [.int .u64 0, .int .u64 ((x * y : Nat) : Int)], []) := by
  have a1 := w_mask x (by omega)
  have a2 := w_shr32 x
  have a3 := w_mask y (by omega)
  have a4 := w_shr32 y
  rw [show y % 4294967296 = y by omega] at a3
  rw [show y / 4294967296 = 0 by omega] at a4
  obtain ⟨x0, x1, h0, h1, hxe⟩ : ∃ x0 x1, x0 = x % 4294967296 ∧ x1 = x / 4294967296 ∧ x = x1 * 4294967296 + x0 := ⟨_, _, rfl, rfl, by omega⟩
  have hx0 : x0 < 4294967296 := by omega
  rw [← h0] at a1
  rw [← h1] at a2
  have hs : x * y = x1 * y * 4294967296 + x0 * y := by rw [hxe, Nat.add_mul, Nat.mul_right_comm]
  have m0 : (x0 : Int) * (y : Int) = ((x0 * y : Nat) : Int) := (Int.natCast_mul _ _).symm
  have m1 : (x1 : Int) * (y : Int) = ((x1 * y : Nat) : Int) := (Int.natCast_mul _ _).symm
  have mm : (x : Int) * (y : Int) = ((x * y : Nat) : Int) := (Int.natCast_mul _ _).symm
  have b0 := w_shr32 (x0 * y)
  generalize x0 * y = w0 at *
  generalize x1 * y = u at *
  generalize x * y = xy at *
  have m2 : (u : Int) + ((w0 / 4294967296 : Nat) : Int) = ((u + w0 / 4294967296 : Nat) : Int) := by omega
  have c1 := w_mask (u + w0 / 4294967296) (by omega)
  have c2 := w_shr32 (u + w0 / 4294967296)
  have ht : u + w0 / 4294967296 < 4294967296 := by omega
  rw [Nat.mod_eq_of_lt ht] at c1
  rw [Nat.div_eq_of_lt ht] at c2
  generalize u + w0 / 4294967296 = t at *
  generalize w0 / 4294967296 = q at *
  refine lim_by (fn := a107) (k := 2) (res := [.tmp 4, .tmp 5]) rfl rfl rfl (by simp -implicitDefEqProofs (maxSteps := 2000000) (disch := first | exact tt_rfl rfl | omega | (simp only [go_sem] <;> omega) | fail) only [go_sem]) ?_
  simp -implicitDefEqProofs (maxSteps := 2000000) (disch := first | exact tt_rfl rfl | omega | (simp only [go_sem] <;> omega) | fail) only [go_sem]
  repeat (first | apply Wp.seqA | apply Wp.skipS | apply Wp.blockS | ((first | apply Wp.regS | apply Wp.condV | apply Wp.reg | apply Wp.condW | apply fin_ret); simp -implicitDefEqProofs (maxSteps := 2000000) (disch := first | exact tt_rfl rfl | omega | (simp only [go_sem] <;> omega) | fail) only [go_sem, a1, a2, a3, a4, m0, m1, mm, b0, m2, c1, c2, wrap_u64, Int.mul_zero, Int.add_zero, Int.zero_add] <;> try with_reducible rfl) | apply Wp.block | apply Wp.exitS | apply Wp.retS | apply Wp.exit | apply Wp.ret | apply Wp.skip)
  simp only [show ((0 : Nat) : Int) = 0 from rfl, Int.mul_zero, Int.add_zero, Int.zero_add, w_shr32, Nat.div_eq_of_lt ht]
  rw [wrap_u64 (by omega) (by omega)]

/-- how far a ratio is from a wanted one, by both denominators -/
def awayN (n d wn wd : Int) : Nat := (n * wd - wn * d).natAbs
structure FarOk (n d wn wd : Int) : Prop where
  n0 : 1 ≤ n
  n1 : n ≤ 25000000000
  d0 : 1 ≤ d
  d1 : d ≤ 1000000
  a0 : 1 ≤ wn
  a1 : wn ≤ 1000000
  b0 : 1 ≤ wd
  b1 : wd ≤ 100
theorem FarOk.in {n d wn wd : Int} (h : FarOk n d wn wd) : (0 ≤ n * wd ∧ n * wd ≤ 2500000000000) ∧ (0 ≤ wn * d ∧ wn * d ≤ 1000000000000) := by
  obtain ⟨h1, h2, h3, h4, h5, h6, h7, h8⟩ := h
  have m1 := Int.mul_le_mul h2 h8 (by omega) (by omega : (0 : Int) ≤ 25000000000)
  have m2 := Int.mul_le_mul h6 h4 (by omega) (by omega : (0 : Int) ≤ 1000000)
  have m3 := Int.mul_nonneg (show 0 ≤ n by omega) (show 0 ≤ wd by omega)
  have m4 := Int.mul_nonneg (show 0 ≤ wn by omega) (show 0 ≤ d by omega)
  omega
theorem FarOk.away {n d wn wd : Int} (h : FarOk n d wn wd) : awayN n d wn wd ≤ 2500000000000 := by
  have := h.in
  unfold awayN
  omega

theorem from_ok (n d wn wd : Int) (h : FarOk n d wn wd) : lim F 72 [.agg [iv n, iv d], .agg [iv wn, iv wd]] = some (.agg [iv (awayN n d wn wd : Nat), iv d], []) := by
  have hi := h.in
  have e : max (n * wd - wn * d) (0 - (n * wd - wn * d)) = ((awayN n d wn wd : Nat) : Int) := by unfold awayN; omega
  generalize awayN n d wn wd = q at *
  refine lim_by (fn := a72) (k := 2) (res := [.cell 4 2 true]) rfl rfl rfl (by simp -implicitDefEqProofs (maxSteps := 2000000) (disch := first | exact tt_rfl rfl | omega | (simp only [go_sem] <;> omega) | fail) only [go_sem]) ?_
  simp -implicitDefEqProofs (maxSteps := 2000000) (disch := first | exact tt_rfl rfl | omega | (simp only [go_sem] <;> omega) | fail) only [go_sem]
  repeat (first | apply Wp.seqA | apply Wp.skipS | apply Wp.blockS | ((first | apply Wp.regS | apply Wp.condV | apply Wp.reg | apply Wp.condW | apply fin_ret); simp -implicitDefEqProofs (maxSteps := 2000000) (disch := first | exact tt_rfl rfl | omega | (simp only [go_sem] <;> omega) | fail) only [go_sem, e] <;> try with_reducible rfl) | apply Wp.block | apply Wp.exitS | apply Wp.retS | apply Wp.exit | apply Wp.ret | apply Wp.skip)
theorem away_ok (n d wn wd : Int) (h : FarOk n d wn wd) : lim F 110 [.agg [iv n, iv d], .agg [iv wn, iv wd]] = some (iv (awayN n d wn wd : Nat), []) := by
  have hi := h.in
  have e : max (n * wd - wn * d) (0 - (n * wd - wn * d)) = ((awayN n d wn wd : Nat) : Int) := by unfold awayN; omega
  generalize awayN n d wn wd = q at *
  refine lim_by (fn := a110) (k := 2) (res := [.tmp 4]) rfl rfl rfl (by simp -implicitDefEqProofs (maxSteps := 2000000) (disch := first | exact tt_rfl rfl | omega | (simp only [go_sem] <;> omega) | fail) only [go_sem]) ?_
  simp -implicitDefEqProofs (maxSteps := 2000000) (disch := first | exact tt_rfl rfl | omega | (simp only [go_sem] <;> omega) | fail) only [go_sem]
  repeat (first | apply Wp.seqA | apply Wp.skipS | apply Wp.blockS | ((first | apply Wp.regS | apply Wp.condV | apply Wp.reg | apply Wp.condW | apply fin_ret); simp -implicitDefEqProofs (maxSteps := 2000000) (disch := first | exact tt_rfl rfl | omega | (simp only [go_sem] <;> omega) | fail) only [go_sem, e] <;> try with_reducible rfl) | apply Wp.block | apply Wp.exitS | apply Wp.retS | apply Wp.exit | apply Wp.ret | apply Wp.skip)

theorem less_ok (p q : Nat) (d e : Nat) (hp : p ≤ 2500000000000) (hq : q ≤ 2500000000000) (hd : d ≤ 1000000) (he : e ≤ 1000000) : lim F 73 [.agg [iv p, iv d], .agg [iv q, iv e]] = some (.bool (decide (p * e < q * d)), []) := by
  have m1 : p * e ≤ 2500000000000 * 1000000 := Nat.mul_le_mul hp he
  have m2 : q * d ≤ 2500000000000 * 1000000 := Nat.mul_le_mul hq hd
  have k1 := mul64_ok p e (by omega) (by omega) (by omega)
  have k2 := mul64_ok q d (by omega) (by omega) (by omega)
  generalize p * e = x at *
  generalize q * d = y at *
  by_cases hxy : x < y
  · refine lim_by (fn := a73) (k := 2) (res := [.tmp 4]) rfl rfl rfl (by simp -implicitDefEqProofs (maxSteps := 2000000) (disch := first | exact tt_rfl rfl | omega | (simp only [go_sem] <;> omega) | fail) only [go_sem]) ?_
    simp -implicitDefEqProofs (maxSteps := 2000000) (disch := first | exact tt_rfl rfl | omega | (simp only [go_sem] <;> omega) | fail) only [go_sem]
    repeat (first | apply Wp.seqA | apply Wp.skipS | apply Wp.blockS | ((first | apply Wp.regS | apply Wp.condV | apply Wp.reg | apply Wp.condW | apply fin_ret); simp -implicitDefEqProofs (maxSteps := 2000000) (disch := first | exact tt_rfl rfl | omega | (simp only [go_sem] <;> omega) | fail) only [go_sem, wrap_u64, k1, k2, show (x : Int) < y by omega, Int.lt_irrefl] <;> try with_reducible rfl) | apply Wp.block | apply Wp.exitS | apply Wp.retS | apply Wp.exit | apply Wp.ret | apply Wp.skip)
    rw [decide_eq_true hxy]
  · refine lim_by (fn := a73) (k := 2) (res := [.tmp 4]) rfl rfl rfl (by simp -implicitDefEqProofs (maxSteps := 2000000) (disch := first | exact tt_rfl rfl | omega | (simp only [go_sem] <;> omega) | fail) only [go_sem]) ?_
    simp -implicitDefEqProofs (maxSteps := 2000000) (disch := first | exact tt_rfl rfl | omega | (simp only [go_sem] <;> omega) | fail) only [go_sem]
    repeat (first | apply Wp.seqA | apply Wp.skipS | apply Wp.blockS | ((first | apply Wp.regS | apply Wp.condV | apply Wp.reg | apply Wp.condW | apply fin_ret); simp -implicitDefEqProofs (maxSteps := 2000000) (disch := first | exact tt_rfl rfl | omega | (simp only [go_sem] <;> omega) | fail) only [go_sem, wrap_u64, k1, k2, show ¬ (x : Int) < y by omega, Int.lt_irrefl] <;> try with_reducible rfl) | apply Wp.block | apply Wp.exitS | apply Wp.retS | apply Wp.exit | apply Wp.ret | apply Wp.skip)
    rw [decide_eq_false hxy]

theorem nearer_ok (n d m e wn wd : Int) (h : FarOk n d wn wd) (h' : FarOk m e wn wd) : lim F 75 [.agg [iv n, iv d], .agg [iv m, iv e], .agg [iv wn, iv wd]] = some (.bool (decide (awayN n d wn wd * e.toNat < awayN m e wn wd * d.toNat)), []) := by
  have k1 := away_ok n d wn wd h
  have k2 := away_ok m e wn wd h'
  have w1 := h.away
  have w2 := h'.away
  obtain ⟨d', hd⟩ : ∃ d' : Nat, d = d' := ⟨d.toNat, by have := h.d0; omega⟩
  obtain ⟨e', he⟩ : ∃ e' : Nat, e = e' := ⟨e.toNat, by have := h'.d0; omega⟩
  have hd1 := h.d1
  have he1 := h'.d1
  subst hd
  subst he
  have m1 : awayN n d' wn wd * e' ≤ 2500000000000 * 1000000 := Nat.mul_le_mul w1 (by omega)
  have m2 : awayN m e' wn wd * d' ≤ 2500000000000 * 1000000 := Nat.mul_le_mul w2 (by omega)
  have c1 : ((awayN n d' wn wd : Nat) : Int) * (e' : Int) = ((awayN n d' wn wd * e' : Nat) : Int) := (Int.natCast_mul _ _).symm
  have c2 : ((awayN m e' wn wd : Nat) : Int) * (d' : Int) = ((awayN m e' wn wd * d' : Nat) : Int) := (Int.natCast_mul _ _).symm
  rw [Int.toNat_natCast, Int.toNat_natCast]
  generalize awayN n d' wn wd * e' = x at *
  generalize awayN m e' wn wd * d' = y at *
  generalize awayN n d' wn wd = p at *
  generalize awayN m e' wn wd = q at *
  by_cases hxy : x < y
  · refine lim_by (fn := a75) (k := 3) (res := [.tmp 6]) rfl rfl rfl (by simp -implicitDefEqProofs (maxSteps := 2000000) (disch := first | exact tt_rfl rfl | omega | (simp only [go_sem] <;> omega) | fail) only [go_sem]) ?_
    simp -implicitDefEqProofs (maxSteps := 2000000) (disch := first | exact tt_rfl rfl | omega | (simp only [go_sem] <;> omega) | fail) only [go_sem]
    repeat (first | apply Wp.seqA | apply Wp.skipS | apply Wp.blockS | ((first | apply Wp.regS | apply Wp.condV | apply Wp.reg | apply Wp.condW | apply fin_ret); simp -implicitDefEqProofs (maxSteps := 2000000) (disch := first | exact tt_rfl rfl | omega | (simp only [go_sem] <;> omega) | fail) only [go_sem, k1, k2, c1, c2, show (x : Int) < y by omega] <;> try with_reducible rfl) | apply Wp.block | apply Wp.exitS | apply Wp.retS | apply Wp.exit | apply Wp.ret | apply Wp.skip)
    rw [decide_eq_true hxy]
  · refine lim_by (fn := a75) (k := 3) (res := [.tmp 6]) rfl rfl rfl (by simp -implicitDefEqProofs (maxSteps := 2000000) (disch := first | exact tt_rfl rfl | omega | (simp only [go_sem] <;> omega) | fail) only [go_sem]) ?_
    simp -implicitDefEqProofs (maxSteps := 2000000) (disch := first | exact tt_rfl rfl | omega | (simp only [go_sem] <;> omega) | fail) only [go_sem]
    repeat (first | apply Wp.seqA | apply Wp.skipS | apply Wp.blockS | ((first | apply Wp.regS | apply Wp.condV | apply Wp.reg | apply Wp.condW | apply fin_ret); simp -implicitDefEqProofs (maxSteps := 2000000) (disch := first | exact tt_rfl rfl | omega | (simp only [go_sem] <;> omega) | fail) only [go_sem, k1, k2, c1, c2, show ¬ (x : Int) < y by omega] <;> try with_reducible rfl) | apply Wp.block | apply Wp.exitS | apply Wp.retS | apply Wp.exit | apply Wp.ret | apply Wp.skip)
    rw [decide_eq_false hxy]
end Go.Abs
