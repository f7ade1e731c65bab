/-
 Several texts: ZP1, ZY1, ZY2.
-/
import Derived.Test.YthafpdlfdkddpaaDoorV4
import Derived.Test.YthafpdlfdkddpaaDoorB7
import Derived.Test.YthafpdlfdkddpaaDoorM20
set_option linter.all false
namespace Go.Abs.Cp
set_option maxRecDepth 10000
set_option maxHeartbeats 2000000

theorem within1_ok (lo hi n : Int) : lim F 76 [iv n, .iptr (.agg [iv lo]) 0, .iptr (.agg [iv hi]) 0] = some (.bool (decide (n < lo ∨ hi < n)), []) := by
 by_cases h1 : n < lo <;> by_cases h2 : hi < n
 all_goals
  refine lim_by (fn := a76) (k := 3) (res := [.tmp 4]) rfl rfl rfl (by simp -implicitDefEqProofs (maxSteps := 2000000) (disch := first | exact tt_rfl rfl | omega | (simp only [go_sem] <;> omega) | fail) only [go_sem]) ?_
  try delta mvA
  try delta opA
  try delta tA
  simp -implicitDefEqProofs (maxSteps := 2000000) (disch := first | exact tt_rfl rfl | omega | (simp only [go_sem] <;> omega) | fail) only [go_sem]
  repeat (first | apply Wp.seqA | apply Wp.skipS | apply Wp.blockS | ((first | apply Wp.regS | apply Wp.condV | apply Wp.reg | apply Wp.condW | apply fin_ret); simp -implicitDefEqProofs (maxSteps := 2000000) (disch := first | exact tt_rfl rfl | omega | (simp only [go_sem] <;> omega) | fail) only [go_sem, h1, h2] <;> try with_reducible rfl) | apply Wp.block | apply Wp.exitS | apply Wp.retS | apply Wp.exit | apply Wp.ret | apply Wp.skip)

theorem within_ok (lo hi : Int) (l : List Int) (hl : l.length < 1000000000) : lim F 70 [iv lo, iv hi, .list 1 (l.map fun n => iv n)] = some (.bool (l.all fun n => decide (lo ≤ n ∧ n ≤ hi)), []) := by
 have h := contains_ints l (fun n => decide (n < lo ∨ hi < n)) 76 (.agg [iv lo]) (.agg [iv hi]) hl (fun n _ => within1_ok lo hi n)
 refine lim_by (fn := a70) (k := 3) (res := [.tmp 6]) rfl rfl rfl (by simp -implicitDefEqProofs (maxSteps := 2000000) (disch := first | exact tt_rfl rfl | omega | (simp only [go_sem] <;> omega) | fail) only [go_sem]) ?_
 try delta mvA
 try delta opA
 try delta tA
 simp -implicitDefEqProofs (maxSteps := 2000000) (disch := first | exact tt_rfl rfl | omega | (simp only [go_sem] <;> omega) | fail) only [go_sem]
 repeat (first | apply Wp.seqA | apply Wp.skipS | apply Wp.blockS | ((first | apply Wp.regS | apply Wp.condV | apply Wp.reg | apply Wp.condW | apply fin_ret); simp -implicitDefEqProofs (maxSteps := 2000000) (disch := first | exact tt_rfl rfl | omega | (simp only [go_sem] <;> omega) | fail) only [go_sem, h] <;> try with_reducible rfl) | apply Wp.block | apply Wp.exitS | apply Wp.retS | apply Wp.exit | apply Wp.ret | apply Wp.skip)
 simp only [Option.some.injEq, Prod.mk.injEq, AV.bool.injEq, and_true]
 rw [List.any_eq_not_all_not, Bool.not_not]
 congr 1
 funext n
 by_cases h1 : n < lo <;> by_cases h2 : hi < n <;> simp [h1, h2] <;> omega
theorem within_one (lo hi n : Int) : lim F 70 [iv lo, iv hi, .list 1 [iv n]] = some (.bool (decide (lo ≤ n ∧ n ≤ hi)), []) := by
 have h := within_ok lo hi [n] (by simp)
 simpa using h

theorem all_ok (k : Nat) (h : k ≤ 24) : lim F 58 [iv (k : Int)] = some (iv (((2 ^ k : Nat) : Int) - 1), []) := by
 have s1 := w_shl1 k (by omega)
 have p1 : 2 ^ k ≤ 2 ^ 24 := Nat.pow_le_pow_right (by omega) (by omega)
 have p2 : 0 < 2 ^ k := Nat.pow_pos (by omega)
 generalize 2 ^ k = m at *
 refine lim_by (fn := a58) (k := 1) (res := [.tmp 2]) rfl rfl rfl (by simp -implicitDefEqProofs (maxSteps := 2000000) (disch := first | exact tt_rfl rfl | omega | (simp only [go_sem] <;> omega) | fail) only [go_sem]) ?_
 try delta mvA
 try delta opA
 try delta tA
 simp -implicitDefEqProofs (maxSteps := 2000000) (disch := first | exact tt_rfl rfl | omega | (simp only [go_sem] <;> omega) | fail) only [go_sem]
 repeat (first | apply Wp.seqA | apply Wp.skipS | apply Wp.blockS | ((first | apply Wp.regS | apply Wp.condV | apply Wp.reg | apply Wp.condW | apply fin_ret); simp -implicitDefEqProofs (maxSteps := 2000000) (disch := first | exact tt_rfl rfl | omega | (simp only [go_sem] <;> omega) | fail) only [go_sem, s1, Int.toNat_natCast] <;> try with_reducible rfl) | apply Wp.block | apply Wp.exitS | apply Wp.retS | apply Wp.exit | apply Wp.ret | apply Wp.skip)
theorem setE_ok (d : DesA) (hl : d.rows.length ≤ 1000000) : lim F 54 [d.av] = some (iv (checkD d), []) := by
 have w1 := within_one 1 24 d.hk
 unfold checkD DesA.av
 by_cases h1 : 1 ≤ d.hk ∧ d.hk ≤ 24
 ·by_cases h2 : 60 < d.rows.length
  ·refine lim_by (fn := a54) (k := 1) (res := [.tmp 2]) rfl rfl rfl (by simp -implicitDefEqProofs (maxSteps := 2000000) (disch := first | exact tt_rfl rfl | omega | (simp only [go_sem] <;> omega) | fail) only [go_sem]) ?_
   try delta mvA
   try delta opA
   try delta tA
   simp -implicitDefEqProofs (maxSteps := 2000000) (disch := first | exact tt_rfl rfl | omega | (simp only [go_sem] <;> omega) | fail) only [go_sem]
   repeat (first | apply Wp.seqA | apply Wp.skipS | apply Wp.blockS | ((first | apply Wp.regS | apply Wp.condV | apply Wp.reg | apply Wp.condW | apply fin_ret); simp -implicitDefEqProofs (maxSteps := 2000000) (disch := first | exact tt_rfl rfl | omega | (simp only [go_sem] <;> omega) | fail) only [go_sem, w1, h1, h2, show (60 : Int) < d.rows.length by omega] <;> try with_reducible rfl) | apply Wp.block | apply Wp.exitS | apply Wp.retS | apply Wp.exit | apply Wp.ret | apply Wp.skip)
  ·by_cases h3 : d.rows.length = 0
   ·refine lim_by (fn := a54) (k := 1) (res := [.tmp 2]) rfl rfl rfl (by simp -implicitDefEqProofs (maxSteps := 2000000) (disch := first | exact tt_rfl rfl | omega | (simp only [go_sem] <;> omega) | fail) only [go_sem]) ?_
    try delta mvA
    try delta opA
    try delta tA
    simp -implicitDefEqProofs (maxSteps := 2000000) (disch := first | exact tt_rfl rfl | omega | (simp only [go_sem] <;> omega) | fail) only [go_sem]
    repeat (first | apply Wp.seqA | apply Wp.skipS | apply Wp.blockS | ((first | apply Wp.regS | apply Wp.condV | apply Wp.reg | apply Wp.condW | apply fin_ret); simp -implicitDefEqProofs (maxSteps := 2000000) (disch := first | exact tt_rfl rfl | omega | (simp only [go_sem] <;> omega) | fail) only [go_sem, w1, h1, h2, h3, show ¬ (60 : Int) < d.rows.length by omega, show (d.rows.length : Int) = 0 by omega] <;> try with_reducible rfl) | apply Wp.block | apply Wp.exitS | apply Wp.retS | apply Wp.exit | apply Wp.ret | apply Wp.skip)
   ·obtain ⟨k, hk⟩ : ∃ k : Nat, d.hk = k := ⟨d.hk.toNat, by omega⟩
    have al := all_ok k (by omega)
    have p1 : 2 ^ k ≤ 2 ^ 24 := Nat.pow_le_pow_right (by omega) (by omega)
    have p2 : 0 < 2 ^ k := Nat.pow_pos (by omega)
    rw [hk] at h1 w1
    have w2 := within_ok 0 (((2 ^ k : Nat) : Int) - 1) d.rows (by omega)
    rw [hk]
    unfold rowOk
    rw [show ((k : Int)).toNat = k by omega]
    generalize hm : 2 ^ k = m at *
    refine lim_by (fn := a54) (k := 1) (res := [.tmp 2]) rfl rfl rfl (by simp -implicitDefEqProofs (maxSteps := 2000000) (disch := first | exact tt_rfl rfl | omega | (simp only [go_sem] <;> omega) | fail) only [go_sem]) ?_
    try delta mvA
    try delta opA
    try delta tA
    simp -implicitDefEqProofs (maxSteps := 2000000) (disch := first | exact tt_rfl rfl | omega | (simp only [go_sem] <;> omega) | fail) only [go_sem]
    cases hb : d.rows.all (fun n => decide (0 ≤ n ∧ n ≤ (m : Int) - 1))
    all_goals
     rw [hb] at w2
     repeat (first | apply Wp.seqA | apply Wp.skipS | apply Wp.blockS | ((first | apply Wp.regS | apply Wp.condV | apply Wp.reg | apply Wp.condW | apply fin_ret); simp -implicitDefEqProofs (maxSteps := 2000000) (disch := first | exact tt_rfl rfl | omega | (simp only [go_sem] <;> omega) | fail) only [go_sem, w1, w2, al, h1, h2, h3, show ¬ (60 : Int) < d.rows.length by omega, show ¬ (d.rows.length : Int) = 0 by omega, Int.toNat_natCast] <;> try with_reducible rfl) | apply Wp.block | apply Wp.exitS | apply Wp.retS | apply Wp.exit | apply Wp.ret | apply Wp.skip)
 ·refine lim_by (fn := a54) (k := 1) (res := [.tmp 2]) rfl rfl rfl (by simp -implicitDefEqProofs (maxSteps := 2000000) (disch := first | exact tt_rfl rfl | omega | (simp only [go_sem] <;> omega) | fail) only [go_sem]) ?_
  try delta mvA
  try delta opA
  try delta tA
  simp -implicitDefEqProofs (maxSteps := 2000000) (disch := first | exact tt_rfl rfl | omega | (simp only [go_sem] <;> omega) | fail) only [go_sem]
  repeat (first | apply Wp.seqA | apply Wp.skipS | apply Wp.blockS | ((first | apply Wp.regS | apply Wp.condV | apply Wp.reg | apply Wp.condW | apply fin_ret); simp -implicitDefEqProofs (maxSteps := 2000000) (disch := first | exact tt_rfl rfl | omega | (simp only [go_sem] <;> omega) | fail) only [go_sem, w1, h1] <;> try with_reducible rfl) | apply Wp.block | apply Wp.exitS | apply Wp.retS | apply Wp.exit | apply Wp.ret | apply Wp.skip)
end Go.Abs.Cp

set_option linter.all false
namespace Go.Abs.Cp
set_option maxRecDepth 10000

/-- a row as it is here: turned or not -/
def turnR (t : Bool) (hk r : Nat) : Nat := if t then r ^^^ (2 ^ hk - 1) else r
theorem turnR_bit {t : Bool} {hk r j : Nat} (h : j < hk) : (turnR t hk r).testBit j = (r.testBit j ^^ t) := by
 unfold turnR
 cases t
 ·simp
 ·simp [Nat.testBit_xor, Nat.testBit_two_pow_sub_one, h]
theorem turnR_lt {t : Bool} {hk r : Nat} (h : r < 2 ^ hk) : turnR t hk r < 2 ^ hk := by
 unfold turnR
 have hp : 0 < 2 ^ hk := Nat.pow_pos (by omega)
 split
 ·exact Nat.xor_lt_two_pow h (by omega)
 ·exact h
/-- the holes of the first row that the second one lacks -/
def subN (x y : Nat) : Nat := x ^^^ (x &&& y)
theorem subN_bit (x y j : Nat) : (subN x y).testBit j = (x.testBit j && !y.testBit j) := by
 unfold subN
 rw [Nat.testBit_xor, Nat.testBit_and]
 cases x.testBit j <;> cases y.testBit j <;> rfl
theorem subN_lt {x y n : Nat} (h : x < 2 ^ n) : subN x y < 2 ^ n := by
 unfold subN
 exact Nat.xor_lt_two_pow h (Nat.lt_of_le_of_lt Nat.and_le_left h)
theorem subN_zero {x y : Nat} : subN x y = 0 ↔ ∀ j, x.testBit j = true → y.testBit j = true := by
 constructor
 ·intro h j hj
  have := subN_bit x y j
  rw [h, Nat.zero_testBit, hj, Bool.true_and] at this
  cases hy : y.testBit j
  ·rw [hy] at this; cases this
  ·rfl
 ·intro h
  apply Nat.eq_of_testBit_eq
  intro j
  rw [subN_bit, Nat.zero_testBit]
  cases hx : x.testBit j
  ·rfl
  ·rw [h j hx]; rfl
/-- all holes of some rows -/
def orAll : List Nat → Nat
 | [] => 0
 | r :: l => r ||| orAll l
theorem orAll_bit (l : List Nat) (j : Nat) : (orAll l).testBit j = l.any fun r => r.testBit j := by
 induction l with
 | nil => simp [orAll]
 | cons r l ih => simp [orAll, Nat.testBit_or, ih]
theorem orAll_snoc (l : List Nat) (r : Nat) : orAll (l ++ [r]) = orAll l ||| r := by
 apply Nat.eq_of_testBit_eq
 intro j
 rw [orAll_bit, Nat.testBit_or, orAll_bit]
 simp
theorem orAll_lt {l : List Nat} {n : Nat} (h : ∀ r ∈ l, r < 2 ^ n) : orAll l < 2 ^ n := by
 induction l with
 | nil => exact Nat.pow_pos (by omega)
 | cons r l ih =>
  unfold orAll
  exact Nat.or_lt_two_pow (h r (by simp)) (ih fun x hx => h x (by simp [hx]))
def lostT (a b : Nat → Nat) : Nat → Nat
 | 0 => 0
 | i + 1 => lostT a b i + bitsN (subN (a i) (b i)) 24
theorem lostT_le (a b : Nat → Nat) : ∀ i, lostT a b i ≤ 24 * i
 | 0 => Nat.le_refl _
 | i + 1 => by
  have h1 := lostT_le a b i
  have h2 : bitsN (subN (a i) (b i)) 24 ≤ 24 := by
   unfold bitsN
   exact Nat.le_trans (List.length_filter_le _ _) (by simp)
  unfold lostT
  omega
end Go.Abs.Cp

set_option linter.all false
namespace Go.Abs.Cp
set_option maxRecDepth 10000

/-- the sum of the numbers of the holes below n -/
def sumB (x : Nat) : Nat → Nat
 | 0 => 0
 | n + 1 => sumB x n + (if x.testBit n then n else 0)
def clr (x : Nat) : Nat := x &&& (x - 1)
/-- after i rounds -/
def itR (r : Nat) : Nat → Nat
 | 0 => r
 | i + 1 => clr (itR r i)
noncomputable def itS (r : Nat) : Nat → Nat
 | 0 => 0
 | i + 1 => itS r i + lowN (itR r i)
/-- the key of a card -/
def keyN (r : Nat) : Nat := bitsN r 24 + 100 * sumB r 24
def keyTo (r : Nat) : Nat → Nat
 | 0 => 0
 | h + 1 => keyTo r h + (if r.testBit h then 1 + 100 * h else 0)
end Go.Abs.Cp
