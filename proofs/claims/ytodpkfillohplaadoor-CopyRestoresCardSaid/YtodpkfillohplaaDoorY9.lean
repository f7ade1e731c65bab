/-
 Several texts: X25, Y9.
-/
import Derived.Test.YtodpkfillohplaaDoorX24
import Derived.Test.YtodpkfillohplaaDoorY8
set_option linter.all false
namespace Go.Abs
set_option maxRecDepth 10000
set_option maxHeartbeats 4000000

theorem sumB_two (x : Nat) : ∀ p, 2 * sumB x p ≤ p * p
 | 0 => Nat.le_refl _
 | p + 1 => by
  have := sumB_two x p
  rw [sumB_succ]
  have e : (p + 1) * (p + 1) = p * p + 2 * p + 1 := by rw [Nat.add_mul, Nat.mul_add]; omega
  split <;> omega
theorem cN_out (r n s : Nat) (h : 24 < n ∨ 576 ≤ s) : cN r 24 n s = 0 := by
 rw [← sel_count]
 apply List.length_eq_zero_iff.2
 rw [List.filter_eq_nil_iff]
 intro x _
 unfold selX
 have h1 := bitsN_le x 24
 have h2 := sumB_two x 24
 rcases h with h | h
 ·have : decide (bitsN x 24 = n) = false := decide_eq_false (by omega)
  rw [this]
  simp
 ·have : decide (sumB x 24 = s) = false := decide_eq_false (by omega)
  rw [this]
  simp
theorem choose_ok (r : Nat) (hr : r < 2 ^ 24) (h s : Int) : lim F 90 [iv (r : Int), .agg [iv h, iv s]] = some (iv ((cZ r 24 h s : Nat) : Int), []) := by
 by_cases h1 : h < 0
 ·have e : cZ r 24 h s = 0 := if_neg (by omega)
  rw [e]
  refine lim_by (fn := a90) (k := 2) (res := [.tmp 4]) rfl rfl rfl (by simp -implicitDefEqProofs (maxSteps := 2000000) (disch := first | exact tt_rfl rfl | omega | (simp only [go_sem] <;> omega) | fail) only [go_sem]) ?_
  try delta mvA
  try delta opA
  try delta tA
  simp -implicitDefEqProofs (maxSteps := 2000000) (disch := first | exact tt_rfl rfl | omega | (simp only [go_sem] <;> omega) | fail) only [go_sem]
  repeat (first | apply Wp.seqA | apply Wp.skipS | apply Wp.blockS | ((first | apply Wp.regS | apply Wp.condV | apply Wp.reg | apply Wp.condW | apply fin_ret); simp -implicitDefEqProofs (maxSteps := 2000000) (disch := first | exact tt_rfl rfl | omega | (simp only [go_sem] <;> omega) | fail) only [go_sem, h1, decide_true, Int.natCast_zero] <;> try with_reducible rfl) | apply Wp.block | apply Wp.exitS | apply Wp.retS | apply Wp.exit | apply Wp.ret | apply Wp.skip)
 by_cases h2 : s < 0
 ·have e : cZ r 24 h s = 0 := if_neg (by omega)
  rw [e]
  refine lim_by (fn := a90) (k := 2) (res := [.tmp 4]) rfl rfl rfl (by simp -implicitDefEqProofs (maxSteps := 2000000) (disch := first | exact tt_rfl rfl | omega | (simp only [go_sem] <;> omega) | fail) only [go_sem]) ?_
  try delta mvA
  try delta opA
  try delta tA
  simp -implicitDefEqProofs (maxSteps := 2000000) (disch := first | exact tt_rfl rfl | omega | (simp only [go_sem] <;> omega) | fail) only [go_sem]
  repeat (first | apply Wp.seqA | apply Wp.skipS | apply Wp.blockS | ((first | apply Wp.regS | apply Wp.condV | apply Wp.reg | apply Wp.condW | apply fin_ret); simp -implicitDefEqProofs (maxSteps := 2000000) (disch := first | exact tt_rfl rfl | omega | (simp only [go_sem] <;> omega) | fail) only [go_sem, h1, h2, decide_true, decide_false, Int.natCast_zero] <;> try with_reducible rfl) | apply Wp.block | apply Wp.exitS | apply Wp.retS | apply Wp.exit | apply Wp.ret | apply Wp.skip)
 have e : cZ r 24 h s = cN r 24 h.toNat s.toNat := if_pos (by omega)
 by_cases h3 : 24 < h
 ·rw [e, cN_out _ _ _ (.inl (by omega))]
  refine lim_by (fn := a90) (k := 2) (res := [.tmp 4]) rfl rfl rfl (by simp -implicitDefEqProofs (maxSteps := 2000000) (disch := first | exact tt_rfl rfl | omega | (simp only [go_sem] <;> omega) | fail) only [go_sem]) ?_
  try delta mvA
  try delta opA
  try delta tA
  simp -implicitDefEqProofs (maxSteps := 2000000) (disch := first | exact tt_rfl rfl | omega | (simp only [go_sem] <;> omega) | fail) only [go_sem]
  repeat (first | apply Wp.seqA | apply Wp.skipS | apply Wp.blockS | ((first | apply Wp.regS | apply Wp.condV | apply Wp.reg | apply Wp.condW | apply fin_ret); simp -implicitDefEqProofs (maxSteps := 2000000) (disch := first | exact tt_rfl rfl | omega | (simp only [go_sem] <;> omega) | fail) only [go_sem, h1, h2, h3, decide_true, decide_false, Int.natCast_zero] <;> try with_reducible rfl) | apply Wp.block | apply Wp.exitS | apply Wp.retS | apply Wp.exit | apply Wp.ret | apply Wp.skip)
 by_cases h4 : 576 ≤ s
 ·rw [e, cN_out _ _ _ (.inr (by omega))]
  refine lim_by (fn := a90) (k := 2) (res := [.tmp 4]) rfl rfl rfl (by simp -implicitDefEqProofs (maxSteps := 2000000) (disch := first | exact tt_rfl rfl | omega | (simp only [go_sem] <;> omega) | fail) only [go_sem]) ?_
  try delta mvA
  try delta opA
  try delta tA
  simp -implicitDefEqProofs (maxSteps := 2000000) (disch := first | exact tt_rfl rfl | omega | (simp only [go_sem] <;> omega) | fail) only [go_sem]
  repeat (first | apply Wp.seqA | apply Wp.skipS | apply Wp.blockS | ((first | apply Wp.regS | apply Wp.condV | apply Wp.reg | apply Wp.condW | apply fin_ret); simp -implicitDefEqProofs (maxSteps := 2000000) (disch := first | exact tt_rfl rfl | omega | (simp only [go_sem] <;> omega) | fail) only [go_sem, h1, h2, h3, h4, decide_true, decide_false, Int.natCast_zero] <;> try with_reducible rfl) | apply Wp.block | apply Wp.exitS | apply Wp.retS | apply Wp.exit | apply Wp.ret | apply Wp.skip)
 obtain ⟨a, rfl⟩ := Int.eq_ofNat_of_zero_le (show 0 ≤ h by omega)
 obtain ⟨b, rfl⟩ := Int.eq_ofNat_of_zero_le (show 0 ≤ s by omega)
 rw [e, Int.toNat_natCast, Int.toNat_natCast]
 exact choose_in r a b hr (by omega) (by omega)
theorem sumB_top {x hk n : Nat} (hx : x < 2 ^ hk) (h : hk ≤ n) : sumB x n = sumB x hk := by
 obtain ⟨d, rfl⟩ := Nat.exists_eq_add_of_le h
 induction d with
 | zero => rfl
 | succ d ih =>
  have e : hk + (d + 1) = (hk + d) + 1 := by omega
  rw [e, sumB_succ, Nat.testBit_lt_two_pow (Nat.lt_of_lt_of_le hx (Nat.pow_le_pow_right (by omega) (by omega))), ih (by omega)]
  simp
theorem wanted_ok (t : Bool) (hk k j : Nat) (h24 : hk ≤ 24) (hk2 : k ≤ 27624) (hj : j < 2 ^ hk) : lim F 89 [.agg [iv (hk : Int), .bool t], iv (k : Int), iv (j : Int)] = some (.agg [iv (nL t j hk ((k % 100 : Nat) : Int)), iv (sL t j hk ((k / 100 : Nat) : Int))], []) := by
 have hA := all_ok hk h24
 have hp : 0 < 2 ^ hk := Nat.pow_pos (by omega)
 have hp24 : 2 ^ hk ≤ 2 ^ 24 := Nat.pow_le_pow_right (by omega) h24
 have hK := keyOf_ok (2 ^ hk - 1) (by omega)
 have hJ := keyOf_ok j (by omega)
 obtain ⟨f1, f2⟩ := sumB_all (2 ^ hk - 1) hk fun q hq => by rw [Nat.testBit_two_pow_sub_one, decide_eq_true hq]
 rw [bitsN_top (show 2 ^ hk - 1 < 2 ^ hk by omega) h24, sumB_top (show 2 ^ hk - 1 < 2 ^ hk by omega) h24, f1, f2] at hK
 rw [bitsN_top hj h24, sumB_top hj h24] at hJ
 have e1 : ((2 ^ hk - 1 : Nat) : Int) = ((2 ^ hk : Nat) : Int) - 1 := by omega
 rw [e1] at hK
 have e2 : Int.tmod (k : Int) 100 = ((k % 100 : Nat) : Int) := by rw [Int.tmod_eq_emod_of_nonneg (Int.natCast_nonneg _)]; rfl
 have e3 : Int.tdiv (k : Int) 100 = ((k / 100 : Nat) : Int) := by rw [Int.tdiv_eq_ediv_of_nonneg (Int.natCast_nonneg _)]; rfl
 have b1 := bitsN_le j hk
 have b2 := sumB_two j hk
 have b3 : hk * hk ≤ 24 * 24 := Nat.mul_le_mul h24 h24
 have b4 := sumB_two (2 ^ hk - 1) hk
 rw [f1] at b4
 have b5 : k % 100 < 100 := Nat.mod_lt _ (by omega)
 have b6 : k / 100 ≤ 276 := by omega
 unfold nL sL
 generalize bitsN j hk = bj at *
 generalize sumB j hk = sj at *
 generalize allS hk = al at *
 generalize k % 100 = k1 at *
 generalize k / 100 = k2 at *
 generalize ((2 ^ hk : Nat) : Int) - 1 = wh at *
 cases t
 ·simp only [Bool.false_eq_true, if_false]
  refine lim_by (fn := a89) (k := 3) (res := [.cell 6 2 true]) rfl rfl rfl (by simp -implicitDefEqProofs (maxSteps := 2000000) (disch := first | exact tt_rfl rfl | omega | (simp only [go_sem] <;> omega) | fail) only [go_sem]) ?_
  try delta mvA
  try delta opA
  try delta tA
  simp -implicitDefEqProofs (maxSteps := 2000000) (disch := first | exact tt_rfl rfl | omega | (simp only [go_sem] <;> omega) | fail) only [go_sem]
  repeat (first | apply Wp.seqA | apply Wp.skipS | apply Wp.blockS | ((first | apply Wp.regS | apply Wp.condV | apply Wp.reg | apply Wp.condW | apply fin_ret); simp -implicitDefEqProofs (maxSteps := 2000000) (disch := first | exact tt_rfl rfl | omega | (simp only [go_sem] <;> omega) | fail) only [go_sem, hA, hK, hJ, e2, e3] <;> try with_reducible rfl) | apply Wp.block | apply Wp.exitS | apply Wp.retS | apply Wp.exit | apply Wp.ret | apply Wp.skip)
 ·simp only [if_true]
  refine lim_by (fn := a89) (k := 3) (res := [.cell 6 2 true]) rfl rfl rfl (by simp -implicitDefEqProofs (maxSteps := 2000000) (disch := first | exact tt_rfl rfl | omega | (simp only [go_sem] <;> omega) | fail) only [go_sem]) ?_
  try delta mvA
  try delta opA
  try delta tA
  simp -implicitDefEqProofs (maxSteps := 2000000) (disch := first | exact tt_rfl rfl | omega | (simp only [go_sem] <;> omega) | fail) only [go_sem]
  repeat (first | apply Wp.seqA | apply Wp.skipS | apply Wp.blockS | ((first | apply Wp.regS | apply Wp.condV | apply Wp.reg | apply Wp.condW | apply fin_ret); simp -implicitDefEqProofs (maxSteps := 2000000) (disch := first | exact tt_rfl rfl | omega | (simp only [go_sem] <;> omega) | fail) only [go_sem, hA, hK, hJ, e2, e3] <;> try with_reducible rfl) | apply Wp.block | apply Wp.exitS | apply Wp.retS | apply Wp.exit | apply Wp.ret | apply Wp.skip)
/-- the points that are no holes -/
def freeN (hk j : Nat) : Nat := subN (2 ^ hk - 1) j
theorem freeN_lt (hk j : Nat) : freeN hk j < 2 ^ hk := by
 apply subN_lt
 have : 0 < 2 ^ hk := Nat.pow_pos (by omega)
 omega
theorem freeN_bit {hk j q : Nat} (h : q < hk) : (freeN hk j).testBit q = !j.testBit q := by
 unfold freeN
 rw [subN_bit, Nat.testBit_two_pow_sub_one, decide_eq_true h, Bool.true_and]
def cardC (f m : Nat) (wo : Nat → Nat) (j : Nat) : Nat → Nat
 | 0 => j
 | q + 1 => if f.testBit q = true ∧ wo q < m then cardC f m wo j q ||| 2 ^ q else cardC f m wo j q
def cardS (f : Nat) (wo : Nat → Nat) (j : Nat) : Nat → Nat
 | 0 => j
 | q + 1 => if f.testBit q = true ∧ wo q = 0 then cardS f wo j q ||| 2 ^ q else cardS f wo j q
theorem cardC_lt {f m : Nat} {wo : Nat → Nat} {j hk : Nat} (hj : j < 2 ^ hk) : ∀ q, q ≤ hk → cardC f m wo j q < 2 ^ hk
 | 0, _ => hj
 | q + 1, hq => by
  have h := cardC_lt (f := f) (m := m) (wo := wo) hj q (by omega)
  unfold cardC
  split
  ·exact Nat.or_lt_two_pow h (Nat.pow_lt_pow_right (by omega) (by omega))
  ·exact h
theorem cardS_lt {f : Nat} {wo : Nat → Nat} {j hk : Nat} (hj : j < 2 ^ hk) : ∀ q, q ≤ hk → cardS f wo j q < 2 ^ hk
 | 0, _ => hj
 | q + 1, hq => by
  have h := cardS_lt (f := f) (wo := wo) hj q (by omega)
  unfold cardS
  split
  ·exact Nat.or_lt_two_pow h (Nat.pow_lt_pow_right (by omega) (by omega))
  ·exact h
def woN (hk j : Nat) (h s : Int) (q : Nat) : Nat := cZ (subN (freeN hk j) (2 ^ q)) 24 h s
theorem and_two (x q : Nat) : x &&& 2 ^ q = (x.testBit q).toNat * 2 ^ q := by
 apply Nat.eq_of_testBit_eq
 intro i
 rw [Nat.testBit_and, Nat.testBit_two_pow]
 by_cases h : q = i
 ·subst h
  cases x.testBit q <;> simp
 ·rw [decide_eq_false h, Bool.and_false]
  cases x.testBit q
  ·simp
  ·simp [Nat.testBit_two_pow, h]
theorem card_key (t : Bool) (hk k j : Nat) (h24 : hk ≤ 24) (hk2 : k ≤ 27624) (hj : j < 2 ^ hk) (hm : cZ (freeN hk j) 24 (nL t j hk ((k % 100 : Nat) : Int)) (sL t j hk ((k / 100 : Nat) : Int)) ≤ 100000) (hw : ∀ q, woN hk j (nL t j hk ((k % 100 : Nat) : Int)) (sL t j hk ((k / 100 : Nat) : Int)) q ≤ 100000) : lim F 78 [.agg [iv (hk : Int), .bool t], iv (j : Int), iv (k : Int)] =
  some (.agg [iv ((cardS (freeN hk j) (woN hk j (nL t j hk ((k % 100 : Nat) : Int)) (sL t j hk ((k / 100 : Nat) : Int))) j hk : Nat) : Int), iv ((cardC (freeN hk j) (cZ (freeN hk j) 24 (nL t j hk ((k % 100 : Nat) : Int)) (sL t j hk ((k / 100 : Nat) : Int))) (woN hk j (nL t j hk ((k % 100 : Nat) : Int)) (sL t j hk ((k / 100 : Nat) : Int))) j hk : Nat) : Int), iv ((cZ (freeN hk j) 24 (nL t j hk ((k % 100 : Nat) : Int)) (sL t j hk ((k / 100 : Nat) : Int)) : Nat) : Int)], []) := by
 have hA := all_ok hk h24
 have hp : 0 < 2 ^ hk := Nat.pow_pos (by omega)
 have hp24 : 2 ^ hk ≤ 2 ^ 24 := Nat.pow_le_pow_right (by omega) h24
 have hW := wanted_ok t hk k j h24 hk2 hj
 have hfl := freeN_lt hk j
 have hch := fun r (hr : r < 2 ^ 24) => choose_ok r hr (nL t j hk ((k % 100 : Nat) : Int)) (sL t j hk ((k / 100 : Nat) : Int))
 have hC0 := hch (freeN hk j) (by omega)
 have e0 := w_andN (2 ^ hk - 1) j (by omega)
 rw [subN_eq (by omega)] at e0
 change _ = ((freeN hk j : Nat) : Int) at e0
 have e1 : ((2 ^ hk - 1 : Nat) : Int) = ((2 ^ hk : Nat) : Int) - 1 := by omega
 rw [e1] at e0
 have hcl := fun q (hq : q ≤ hk) => cardC_lt (f := freeN hk j) (m := cZ (freeN hk j) 24 (nL t j hk ((k % 100 : Nat) : Int)) (sL t j hk ((k / 100 : Nat) : Int))) (wo := woN hk j (nL t j hk ((k % 100 : Nat) : Int)) (sL t j hk ((k / 100 : Nat) : Int))) hj q hq
 have hsl := fun q (hq : q ≤ hk) => cardS_lt (f := freeN hk j) (wo := woN hk j (nL t j hk ((k % 100 : Nat) : Int)) (sL t j hk ((k / 100 : Nat) : Int))) hj q hq
 have hwo : ∀ q, woN hk j (nL t j hk ((k % 100 : Nat) : Int)) (sL t j hk ((k / 100 : Nat) : Int)) q = cZ (subN (freeN hk j) (2 ^ q)) 24 (nL t j hk ((k % 100 : Nat) : Int)) (sL t j hk ((k / 100 : Nat) : Int)) := fun q => rfl
 generalize woN hk j (nL t j hk ((k % 100 : Nat) : Int)) (sL t j hk ((k / 100 : Nat) : Int)) = wo at *
 generalize cZ (freeN hk j) 24 (nL t j hk ((k % 100 : Nat) : Int)) (sL t j hk ((k / 100 : Nat) : Int)) = m at *
 have hsc : ∀ q, cardC (freeN hk j) m wo j (q + 1) = if (freeN hk j).testBit q = true ∧ wo q < m then cardC (freeN hk j) m wo j q ||| 2 ^ q else cardC (freeN hk j) m wo j q := fun q => rfl
 have hss : ∀ q, cardS (freeN hk j) wo j (q + 1) = if (freeN hk j).testBit q = true ∧ wo q = 0 then cardS (freeN hk j) wo j q ||| 2 ^ q else cardS (freeN hk j) wo j q := fun q => rfl
 have hf24 : freeN hk j < 2 ^ 24 := by omega
 have p24 : (2 : Nat) ^ 24 = 16777216 := rfl
 generalize nL t j hk ((k % 100 : Nat) : Int) = wh at *
 generalize sL t j hk ((k / 100 : Nat) : Int) = ws at *
 generalize ((2 ^ hk : Nat) : Int) - 1 = al at *
 generalize hfr : freeN hk j = f at *
 refine lim_by (fn := a78) (k := 3) (res := [.cell 6 3 true]) rfl rfl rfl (by simp -implicitDefEqProofs (maxSteps := 2000000) (disch := first | exact tt_rfl rfl | omega | (simp only [go_sem] <;> omega) | fail) only [go_sem]) ?_
 try delta mvA
 try delta opA
 try delta tA
 simp -implicitDefEqProofs (maxSteps := 2000000) (disch := first | exact tt_rfl rfl | omega | (simp only [go_sem] <;> omega) | fail) only [go_sem]
 repeat (first | apply Wp.seqA | apply Wp.skipS | apply Wp.blockS | ((first | apply Wp.regS | apply Wp.condV | apply Wp.reg | apply Wp.condW | apply fin_ret); simp -implicitDefEqProofs (maxSteps := 2000000) (disch := first | exact tt_rfl rfl | omega | (simp only [go_sem] <;> omega) | fail) only [go_sem, hA, e0, hW, hC0, show ¬ (k : Int) = -1 by omega] <;> try with_reducible rfl) | apply Wp.block | apply Wp.exitS | apply Wp.retS | apply Wp.exit | apply Wp.ret | apply Wp.skip)
 apply Wp.loopF hk (fun q => ⟨[(6, .ptr 384 0 0), (7, iv (f : Int)), (8, .ptr 512 0 0), (39, iv (hk : Int)), (40, iv (q : Int))], [(384, .box [iv ((cardS f wo j q : Nat) : Int), iv ((cardC f m wo j q : Nat) : Int), iv (m : Int)]), (512, .box [iv wh, iv ws])], [], 10000000⟩) (fun _ => True)
 ·simp -implicitDefEqProofs (maxSteps := 2000000) (disch := first | exact tt_rfl rfl | omega | (simp only [go_sem] <;> omega) | fail) only [go_sem, norm_eq, Ok.some]
  rfl
 ·trivial
 intro q hq _
 by_cases h' : q < hk
 ·have s1 := w_shl1 q (by omega)
  have q1 : 2 ^ q < 2 ^ hk := Nat.pow_lt_pow_right (by omega) h'
  have a1 := w_and f (2 ^ q) (by omega) (by omega)
  rw [and_two] at a1
  have a2 := w_andN f (2 ^ q) (by omega)
  rw [subN_eq (by omega)] at a2
  have a3 := hch (subN f (2 ^ q)) (by have := subN_lt (y := 2 ^ q) hf24; exact this)
  rw [← hwo q] at a3
  have a4 := hw q
  have c1 := hcl q (by omega)
  have c2 := hsl q (by omega)
  have o1 := w_or (cardC f m wo j q) (2 ^ q) (by omega) (by omega)
  have o2 := w_or (cardS f wo j q) (2 ^ q) (by omega) (by omega)
  have d1 := hsc q
  have d2 := hss q
  have qp : 0 < 2 ^ q := Nat.pow_pos (by omega)
  rw [d1, d2]
  clear hcl hsl hsc hss hwo hw hch hC0 e0 hA hW
  generalize cardC f m wo j q ||| 2 ^ q = c' at *
  generalize cardS f wo j q ||| 2 ^ q = s' at *
  generalize cardC f m wo j q = cc at *
  generalize cardS f wo j q = cs at *
  generalize subN f (2 ^ q) = fw at *
  generalize wo q = w at *
  generalize 2 ^ q = pq at *
  cases hb : f.testBit q
  ·rw [hb] at a1
   simp only [Bool.toNat_false, Nat.zero_mul] at a1
   simp only [Bool.false_eq_true, false_and, if_false]
   repeat (first | apply Wp.seqA | apply Wp.skipS | apply Wp.blockS | ((first | apply Wp.regS | apply Wp.condV | apply Wp.reg | apply Wp.condW | apply fin_ret); simp -implicitDefEqProofs (maxSteps := 2000000) (disch := first | exact tt_rfl rfl | omega | (simp only [go_sem] <;> omega) | fail) only [go_sem, h', Int.ofNat_lt, s1, a1, Int.toNat_natCast, Int.natCast_zero] <;> try with_reducible rfl) | apply Wp.block | apply Wp.exitS | apply Wp.retS | apply Wp.exit | apply Wp.ret | apply Wp.skip)
   apply round_next
   ·simp -implicitDefEqProofs (maxSteps := 2000000) (disch := first | exact tt_rfl rfl | omega | (simp only [go_sem] <;> omega) | fail) only [go_sem, norm_eq, Ok.some]; with_reducible rfl
   exact ⟨h', by simp, trivial⟩
  ·rw [hb] at a1
   simp only [Bool.toNat_true, Nat.one_mul] at a1
   simp only [true_and]
   have n0 : ¬ (pq : Int) = 0 := by omega
   by_cases w0 : w = 0
   ·rw [w0] at a3 ⊢
    simp only [if_true]
    by_cases wm : 0 < m
    ·rw [if_pos wm]
     repeat (first | apply Wp.seqA | apply Wp.skipS | apply Wp.blockS | ((first | apply Wp.regS | apply Wp.condV | apply Wp.reg | apply Wp.condW | apply fin_ret); simp -implicitDefEqProofs (maxSteps := 2000000) (disch := first | exact tt_rfl rfl | omega | (simp only [go_sem] <;> omega) | fail) only [go_sem, h', Int.ofNat_lt, s1, a1, a2, a3, o1, o2, n0, wm, Int.natCast_pos, Int.toNat_natCast, Int.natCast_zero] <;> try with_reducible rfl) | apply Wp.block | apply Wp.exitS | apply Wp.retS | apply Wp.exit | apply Wp.ret | apply Wp.skip)
     apply round_next
     ·simp -implicitDefEqProofs (maxSteps := 2000000) (disch := first | exact tt_rfl rfl | omega | (simp only [go_sem] <;> omega) | fail) only [go_sem, norm_eq, Ok.some]; with_reducible rfl
     exact ⟨h', by simp, trivial⟩
    ·rw [if_neg wm]
     repeat (first | apply Wp.seqA | apply Wp.skipS | apply Wp.blockS | ((first | apply Wp.regS | apply Wp.condV | apply Wp.reg | apply Wp.condW | apply fin_ret); simp -implicitDefEqProofs (maxSteps := 2000000) (disch := first | exact tt_rfl rfl | omega | (simp only [go_sem] <;> omega) | fail) only [go_sem, h', Int.ofNat_lt, s1, a1, a2, a3, o1, o2, n0, wm, Int.natCast_pos, Int.toNat_natCast, Int.natCast_zero] <;> try with_reducible rfl) | apply Wp.block | apply Wp.exitS | apply Wp.retS | apply Wp.exit | apply Wp.ret | apply Wp.skip)
     apply round_next
     ·simp -implicitDefEqProofs (maxSteps := 2000000) (disch := first | exact tt_rfl rfl | omega | (simp only [go_sem] <;> omega) | fail) only [go_sem, norm_eq, Ok.some]; with_reducible rfl
     exact ⟨h', by simp, trivial⟩
   ·rw [if_neg w0]
    have n1 : ¬ (w : Int) = 0 := by omega
    by_cases wm : w < m
    ·rw [if_pos wm]
     repeat (first | apply Wp.seqA | apply Wp.skipS | apply Wp.blockS | ((first | apply Wp.regS | apply Wp.condV | apply Wp.reg | apply Wp.condW | apply fin_ret); simp -implicitDefEqProofs (maxSteps := 2000000) (disch := first | exact tt_rfl rfl | omega | (simp only [go_sem] <;> omega) | fail) only [go_sem, h', Int.ofNat_lt, s1, a1, a2, a3, o1, o2, n0, n1, wm, Int.toNat_natCast] <;> try with_reducible rfl) | apply Wp.block | apply Wp.exitS | apply Wp.retS | apply Wp.exit | apply Wp.ret | apply Wp.skip)
     apply round_next
     ·simp -implicitDefEqProofs (maxSteps := 2000000) (disch := first | exact tt_rfl rfl | omega | (simp only [go_sem] <;> omega) | fail) only [go_sem, norm_eq, Ok.some]; with_reducible rfl
     exact ⟨h', by simp, trivial⟩
    ·rw [if_neg wm]
     repeat (first | apply Wp.seqA | apply Wp.skipS | apply Wp.blockS | ((first | apply Wp.regS | apply Wp.condV | apply Wp.reg | apply Wp.condW | apply fin_ret); simp -implicitDefEqProofs (maxSteps := 2000000) (disch := first | exact tt_rfl rfl | omega | (simp only [go_sem] <;> omega) | fail) only [go_sem, h', Int.ofNat_lt, s1, a1, a2, a3, o1, o2, n0, n1, wm, Int.toNat_natCast] <;> try with_reducible rfl) | apply Wp.block | apply Wp.exitS | apply Wp.retS | apply Wp.exit | apply Wp.ret | apply Wp.skip)
     apply round_next
     ·simp -implicitDefEqProofs (maxSteps := 2000000) (disch := first | exact tt_rfl rfl | omega | (simp only [go_sem] <;> omega) | fail) only [go_sem, norm_eq, Ok.some]; with_reducible rfl
     exact ⟨h', by simp, trivial⟩
 ·obtain rfl : q = hk := by omega
  repeat (first | apply Wp.seqA | apply Wp.skipS | apply Wp.blockS | ((first | apply Wp.regS | apply Wp.condV | apply Wp.reg | apply Wp.condW | apply fin_ret); simp -implicitDefEqProofs (maxSteps := 2000000) (disch := first | exact tt_rfl rfl | omega | (simp only [go_sem] <;> omega) | fail) only [go_sem, Int.lt_irrefl] <;> try with_reducible rfl) | apply Wp.block | apply Wp.exitS | apply Wp.retS | apply Wp.exit | apply Wp.ret | apply Wp.skip)
theorem card_blot (t : Bool) (hk j : Nat) (h24 : hk ≤ 24) (hj : j < 2 ^ hk) : lim F 78 [.agg [iv (hk : Int), .bool t], iv (j : Int), iv (-1)] = some (.agg [iv (j : Int), iv ((j ||| freeN hk j : Nat) : Int), iv ((2 ^ bitsN (freeN hk j) 24 : Nat) : Int)], []) := by
 have hA := all_ok hk h24
 have hp : 0 < 2 ^ hk := Nat.pow_pos (by omega)
 have hp24 : 2 ^ hk ≤ 2 ^ 24 := Nat.pow_le_pow_right (by omega) h24
 have hfl := freeN_lt hk j
 have e0 := w_andN (2 ^ hk - 1) j (by omega)
 rw [subN_eq (by omega)] at e0
 change _ = ((freeN hk j : Nat) : Int) at e0
 have e1 : ((2 ^ hk - 1 : Nat) : Int) = ((2 ^ hk : Nat) : Int) - 1 := by omega
 rw [e1] at e0
 have o1 := w_or j (freeN hk j) (by omega) (by omega)
 have h3 := wu_nat (n := freeN hk j) (by omega)
 have h2 := OnesCount64_ok (freeN hk j) (by omega)
 have bl := bits_le (freeN hk j)
 have s1 := w_shl1 (bitsN (freeN hk j) 24) (by omega)
 generalize bitsN (freeN hk j) 24 = bn at *
 generalize j ||| freeN hk j = jf at *
 generalize freeN hk j = f at *
 generalize ((2 ^ hk : Nat) : Int) - 1 = al at *
 refine lim_by (fn := a78) (k := 3) (res := [.cell 6 3 true]) rfl rfl rfl (by simp -implicitDefEqProofs (maxSteps := 2000000) (disch := first | exact tt_rfl rfl | omega | (simp only [go_sem] <;> omega) | fail) only [go_sem]) ?_
 try delta mvA
 try delta opA
 try delta tA
 simp -implicitDefEqProofs (maxSteps := 2000000) (disch := first | exact tt_rfl rfl | omega | (simp only [go_sem] <;> omega) | fail) only [go_sem]
 repeat (first | apply Wp.seqA | apply Wp.skipS | apply Wp.blockS | ((first | apply Wp.regS | apply Wp.condV | apply Wp.reg | apply Wp.condW | apply fin_ret); simp -implicitDefEqProofs (maxSteps := 2000000) (disch := first | exact tt_rfl rfl | omega | (simp only [go_sem] <;> omega) | fail) only [go_sem, hA, e0, o1, h2, h3, s1, Int.toNat_natCast] <;> try with_reducible rfl) | apply Wp.block | apply Wp.exitS | apply Wp.retS | apply Wp.exit | apply Wp.ret | apply Wp.skip)
end Go.Abs

set_option linter.all false
namespace Go.Abs
set_option maxRecDepth 10000

/-- may a row be the original's? (-1: no key) -/
def rowP (t : Bool) (hk j : Nat) (k : Int) (x : Nat) : Bool := betX t j (2 ^ hk - 1) x hk && (decide (k = -1) || decide (((keyN x : Nat) : Int) = k))
theorem full_bit {hk q : Nat} (h : q < hk) : (2 ^ hk - 1).testBit q = true := by
 rw [Nat.testBit_two_pow_sub_one, decide_eq_true h]
theorem key_split {x hk k : Nat} (h24 : hk ≤ 24) (hx : x < 2 ^ hk) : (((keyN x : Nat) : Int) = (k : Int)) ↔ (((bitsN x hk : Nat) : Int) = ((k % 100 : Nat) : Int) ∧ ((sumB x hk : Nat) : Int) = ((k / 100 : Nat) : Int)) := by
 unfold keyN
 rw [bitsN_top hx h24, sumB_top hx h24]
 have h1 := bitsN_le x hk
 generalize bitsN x hk = a at *
 generalize sumB x hk = b at *
 constructor
 ·intro h; omega
 ·intro h; omega
theorem rowP_sel {t : Bool} {hk j k x : Nat} (h24 : hk ≤ 24) (hx : x < 2 ^ hk) : rowP t hk j (k : Int) x = selA t j (2 ^ hk - 1) hk ((k % 100 : Nat) : Int) ((k / 100 : Nat) : Int) x := by
 unfold rowP selA
 congr 1
 have e1 : decide ((k : Int) = -1) = false := decide_eq_false (by omega)
 rw [e1, Bool.false_or, ← Bool.decide_and]
 exact decide_eq_decide.2 (key_split h24 hx)
theorem rowP_len {t : Bool} {hk j k : Nat} (h24 : hk ≤ 24) : ((List.range (2 ^ hk)).filter (rowP t hk j (k : Int))).length = cZ (freeN hk j) 24 (nL t j hk ((k % 100 : Nat) : Int)) (sL t j hk ((k / 100 : Nat) : Int)) := by
 rw [filter_len_congr (fun x hx => rowP_sel h24 (List.mem_range.1 hx))]
 rw [selA_count t j (2 ^ hk - 1) (freeN hk j) hk (fun q hq => ⟨by rw [freeN_bit hq, full_bit hq, Bool.true_and], fun _ => full_bit hq⟩)]
 exact (cZ_top (freeN_lt hk j) h24 _ _).symm
theorem wo_len {t : Bool} {hk j k q : Nat} (h24 : hk ≤ 24) (hq : q < hk) (hj : j.testBit q = false) : ((List.range (2 ^ hk)).filter fun x => rowP t hk j (k : Int) x && !(x.testBit q ^^ t)).length = woN hk j (nL t j hk ((k % 100 : Nat) : Int)) (sL t j hk ((k / 100 : Nat) : Int)) q := by
 have hb : ∀ p, p < hk → (subN (2 ^ hk - 1) (2 ^ q)).testBit p = !decide (q = p) := fun p hp => by
  rw [subN_bit, full_bit hp, Nat.testBit_two_pow, Bool.true_and]
 rw [filter_len_congr (q := selA t j (subN (2 ^ hk - 1) (2 ^ q)) hk ((k % 100 : Nat) : Int) ((k / 100 : Nat) : Int)) (fun x hx => ?_)]
 ·rw [selA_count t j (subN (2 ^ hk - 1) (2 ^ q)) (subN (freeN hk j) (2 ^ q)) hk (fun p hp => ⟨by
   rw [hb p hp, subN_bit, freeN_bit hp, Nat.testBit_two_pow, Bool.and_comm], fun h => by
   rw [hb p hp]
   by_cases e : q = p
   ·subst e; rw [hj] at h; cases h
   ·rw [decide_eq_false e]; rfl⟩)]
  unfold woN
  exact (cZ_top (subN_lt (freeN_lt hk j)) h24 _ _).symm
 ·rw [rowP_sel h24 (List.mem_range.1 hx)]
  unfold selA
  have e : betX t j (subN (2 ^ hk - 1) (2 ^ q)) x hk = (betX t j (2 ^ hk - 1) x hk && !(x.testBit q ^^ t)) := by
   apply Bool.eq_iff_iff.2
   rw [Bool.and_eq_true, betX_iff, betX_iff]
   constructor
   ·intro h
    refine ⟨fun p hp => ⟨(h p hp).1, fun _ => full_bit hp⟩, ?_⟩
    cases hx : (x.testBit q ^^ t)
    ·rfl
    ·have := (h q hq).2 hx
     rw [hb q hq, decide_eq_true rfl] at this
     cases this
   ·rintro ⟨h1, h2⟩ p hp
    refine ⟨(h1 p hp).1, fun h3 => ?_⟩
    rw [hb p hp]
    by_cases e : q = p
    ·subst e; rw [h3] at h2; cases h2
    ·rw [decide_eq_false e]; rfl
  rw [e]
  cases betX t j (2 ^ hk - 1) x hk <;> cases (!(x.testBit q ^^ t)) <;> simp
theorem cardC_bit {f m : Nat} {wo : Nat → Nat} {j : Nat} (p : Nat) : ∀ q, (cardC f m wo j q).testBit p = (j.testBit p || decide (p < q ∧ f.testBit p = true ∧ wo p < m))
 | 0 => by simp [cardC]
 | q + 1 => by
  have ih := cardC_bit (f := f) (m := m) (wo := wo) (j := j) p q
  unfold cardC
  by_cases h : f.testBit q = true ∧ wo q < m
  ·rw [if_pos h, Nat.testBit_or, ih, Nat.testBit_two_pow, Bool.or_assoc, ← Bool.decide_or]
   congr 1
   apply decide_eq_decide.2
   constructor
   ·rintro (h1 | h1)
    ·exact ⟨by omega, h1.2⟩
    ·subst h1; exact ⟨by omega, h⟩
   ·rintro ⟨h1, h2⟩
    by_cases e : q = p
    ·exact .inr e
    ·exact .inl ⟨by omega, h2⟩
  ·rw [if_neg h, ih]
   congr 1
   apply decide_eq_decide.2
   constructor
   ·rintro ⟨h1, h2⟩; exact ⟨by omega, h2⟩
   ·rintro ⟨h1, h2⟩
    refine ⟨?_, h2⟩
    by_cases e : p = q
    ·subst e; exact absurd h2 h
    ·omega
theorem cardS_bit {f : Nat} {wo : Nat → Nat} {j : Nat} (p : Nat) : ∀ q, (cardS f wo j q).testBit p = (j.testBit p || decide (p < q ∧ f.testBit p = true ∧ wo p = 0))
 | 0 => by simp [cardS]
 | q + 1 => by
  have ih := cardS_bit (f := f) (wo := wo) (j := j) p q
  unfold cardS
  by_cases h : f.testBit q = true ∧ wo q = 0
  ·rw [if_pos h, Nat.testBit_or, ih, Nat.testBit_two_pow, Bool.or_assoc, ← Bool.decide_or]
   congr 1
   apply decide_eq_decide.2
   constructor
   ·rintro (h1 | h1)
    ·exact ⟨by omega, h1.2⟩
    ·subst h1; exact ⟨by omega, h⟩
   ·rintro ⟨h1, h2⟩
    by_cases e : q = p
    ·exact .inr e
    ·exact .inl ⟨by omega, h2⟩
  ·rw [if_neg h, ih]
   congr 1
   apply decide_eq_decide.2
   constructor
   ·rintro ⟨h1, h2⟩; exact ⟨by omega, h2⟩
   ·rintro ⟨h1, h2⟩
    refine ⟨?_, h2⟩
    by_cases e : p = q
    ·subst e; exact absurd h2 h
    ·omega
/-- the rows that a card can be -/
def rowsT (t : Bool) (hk j : Nat) (k : Int) : List Nat := (List.range (2 ^ hk)).filter (rowP t hk j k)
structure CardOk (t : Bool) (hk j : Nat) (k : Int) (sure can many : Nat) : Prop where
 s : sure < 2 ^ hk
 c : can < 2 ^ hk
 m : many = (rowsT t hk j k).length
 b : rowsT t hk j k ≠ [] → ∀ q, q < hk → (sure.testBit q = (rowsT t hk j k).all fun x => x.testBit q ^^ t) ∧ can.testBit q = (rowsT t hk j k).any fun x => x.testBit q ^^ t
theorem rowP_bet {t : Bool} {hk j x : Nat} {k : Int} (h : x ∈ rowsT t hk j k) : betX t j (2 ^ hk - 1) x hk = true := by
 have := (List.mem_filter.1 h).2
 unfold rowP at this
 rw [Bool.and_eq_true] at this
 exact this.1
theorem card_is (t : Bool) (hk k j : Nat) (h24 : hk ≤ 24) (hj : j < 2 ^ hk) : CardOk t hk j (k : Int) (cardS (freeN hk j) (woN hk j (nL t j hk ((k % 100 : Nat) : Int)) (sL t j hk ((k / 100 : Nat) : Int))) j hk) (cardC (freeN hk j) (cZ (freeN hk j) 24 (nL t j hk ((k % 100 : Nat) : Int)) (sL t j hk ((k / 100 : Nat) : Int))) (woN hk j (nL t j hk ((k % 100 : Nat) : Int)) (sL t j hk ((k / 100 : Nat) : Int))) j hk) (cZ (freeN hk j) 24 (nL t j hk ((k % 100 : Nat) : Int)) (sL t j hk ((k / 100 : Nat) : Int))) where
 s := cardS_lt hj hk (Nat.le_refl _)
 c := cardC_lt hj hk (Nat.le_refl _)
 m := (rowP_len h24).symm
 b := by
  intro hne q hq
  rw [cardS_bit, cardC_bit, freeN_bit hq]
  cases hjq : j.testBit q
  ·have hw := wo_len (t := t) (k := k) h24 hq hjq
   have hm := rowP_len (t := t) (hk := hk) (j := j) (k := k) h24
   rw [← hm, ← hw]
   have e : ((List.range (2 ^ hk)).filter fun x => rowP t hk j (k : Int) x && !(x.testBit q ^^ t)) = (rowsT t hk j (k : Int)).filter fun x => !(x.testBit q ^^ t) := by
    unfold rowsT
    rw [List.filter_filter]
    congr 1
    funext x
    rw [Bool.and_comm]
   rw [e]
   change _ ∧ (false || decide (q < hk ∧ (!false) = true ∧ _ < (rowsT t hk j (k : Int)).length)) = _
   generalize rowsT t hk j (k : Int) = T at *
   simp only [Bool.false_or, Bool.not_false, hq, true_and]
   constructor
   ·apply Bool.eq_iff_iff.2
    rw [decide_eq_true_eq, List.all_eq_true, List.length_eq_zero_iff, List.filter_eq_nil_iff]
    constructor
    ·intro h x hx
     have := h x hx
     simpa using this
    ·intro h x hx
     rw [h x hx]; simp
   ·apply Bool.eq_iff_iff.2
    rw [decide_eq_true_eq, List.any_eq_true, List.length_filter_lt_length_iff_exists]
    constructor
    ·rintro ⟨x, hx, h⟩
     exact ⟨x, hx, by simpa using h⟩
    ·rintro ⟨x, hx, h⟩
     exact ⟨x, hx, by rw [h]; simp⟩
  ·have hall : ∀ x ∈ rowsT t hk j (k : Int), (x.testBit q ^^ t) = true := fun x hx => (betX_iff.1 (rowP_bet hx) q hq).1 hjq
   rw [Bool.true_or, Bool.true_or]
   refine ⟨(List.all_eq_true.2 hall).symm, ?_⟩
   obtain ⟨x, hx⟩ := List.exists_mem_of_ne_nil _ hne
   exact (List.any_eq_true.2 ⟨x, hx, hall x hx⟩).symm
theorem bet_low {t : Bool} {j a p x : Nat} (hx : x < 2 ^ p) : betX t j a x (p + 1) = ((!j.testBit p || t) && (!t || a.testBit p) && betX t j a x p) := by
 have hb : x.testBit p = false := Nat.testBit_lt_two_pow hx
 rw [betX_succ, hb]
 simp only [Bool.false_xor]
 cases betX t j a x p <;> cases (!j.testBit p || t) <;> cases (!t || a.testBit p) <;> rfl
theorem bet_high {t : Bool} {j a p x : Nat} (hx : x < 2 ^ p) : betX t j a (2 ^ p + x) (p + 1) = ((!j.testBit p || !t) && (t || a.testBit p) && betX t j a x p) := by
 have hb : (2 ^ p + x).testBit p = true := by
  rw [Nat.testBit_two_pow_add_eq, Nat.testBit_lt_two_pow hx]; rfl
 have c3 := betX_congr (t := t) (j := j) (a := a) (x := 2 ^ p + x) (y := x) (p := p) fun j hj => Nat.testBit_two_pow_add_gt hj x
 rw [betX_succ, hb, c3]
 simp only [Bool.true_xor, Bool.not_not]
 cases betX t j a x p <;> cases (!j.testBit p || !t) <;> cases (t || a.testBit p) <;> rfl
theorem bet_count (t : Bool) (j a : Nat) : ∀ p, (∀ q, q < p → a.testBit q = true) → ((List.range (2 ^ p)).filter fun x => betX t j a x p).length = 2 ^ bitsN (subN a j) p
 | 0, _ => by simp [betX, bitsN]
 | p + 1, ha => by
  have ih := bet_count t j a p fun q hq => ha q (by omega)
  have hap := ha p (by omega)
  rw [range_two, List.filter_append, List.length_append, List.filter_map, List.length_map]
  rw [filter_len_congr (q := fun x => (!j.testBit p || t) && (!t || a.testBit p) && betX t j a x p) (fun x hx => bet_low (List.mem_range.1 hx))]
  rw [filter_len_congr (p := (fun x => betX t j a x (p + 1)) ∘ (2 ^ p + ·)) (q := fun x => (!j.testBit p || !t) && (t || a.testBit p) && betX t j a x p) (fun x hx => bet_high (List.mem_range.1 hx))]
  rw [bitsN_succ, subN_bit, hap]
  cases hj : j.testBit p <;> cases t <;> simp only [Bool.not_false, Bool.true_or, Bool.not_true, Bool.true_and, Bool.false_or, Bool.and_false, Bool.false_and, Bool.or_false, Bool.or_true, Bool.and_true, Bool.toNat_true, Bool.toNat_false, Nat.add_zero, filt_none, Nat.zero_add] <;> rw [ih] <;> (try rw [Nat.pow_succ]) <;> omega
theorem numT_mem (t : Bool) (hk j : Nat) (g : Nat → Bool) (hg : ∀ q, q < hk → j.testBit q = true → g q = true) : rowTo (fun q => g q ^^ t) hk ∈ rowsT t hk j (-1) ∧ ∀ q, q < hk → ((rowTo (fun q => g q ^^ t) hk).testBit q ^^ t) = g q := by
 have hb : ∀ q, q < hk → ((rowTo (fun q => g q ^^ t) hk).testBit q ^^ t) = g q := fun q hq => by
  rw [rowTo_bit, decide_eq_true hq, Bool.true_and, Bool.xor_assoc, Bool.xor_self, Bool.xor_false]
 refine ⟨List.mem_filter.2 ⟨List.mem_range.2 (rowTo_lt _ _), ?_⟩, hb⟩
 unfold rowP
 rw [Bool.and_eq_true]
 refine ⟨betX_iff.2 fun q hq => ⟨fun h => by rw [hb q hq]; exact hg q hq h, fun _ => full_bit hq⟩, rfl⟩
theorem blot_is (t : Bool) (hk j : Nat) (h24 : hk ≤ 24) (hj : j < 2 ^ hk) : CardOk t hk j (-1) j (j ||| freeN hk j) (2 ^ bitsN (freeN hk j) 24) where
 s := hj
 c := Nat.or_lt_two_pow hj (freeN_lt hk j)
 m := by
  have e : rowsT t hk j (-1) = (List.range (2 ^ hk)).filter fun x => betX t j (2 ^ hk - 1) x hk := by
   unfold rowsT
   congr 1
   funext x
   unfold rowP
   simp
  rw [e, bet_count t j (2 ^ hk - 1) hk (fun q hq => full_bit hq)]
  have : bitsN (freeN hk j) 24 = bitsN (freeN hk j) hk := bitsN_top (freeN_lt hk j) h24
  rw [this]
  rfl
 b := by
  intro _ q hq
  rw [Nat.testBit_or, freeN_bit hq]
  obtain ⟨m1, b1⟩ := numT_mem t hk j (fun q => j.testBit q) fun q _ h => h
  obtain ⟨m2, b2⟩ := numT_mem t hk j (fun _ => true) fun q _ _ => rfl
  constructor
  ·cases hjq : j.testBit q
   ·symm
    rw [List.all_eq_false]
    refine ⟨_, m1, ?_⟩
    rw [b1 q hq, hjq]
    simp
   ·exact (List.all_eq_true.2 fun x hx => (betX_iff.1 (rowP_bet hx) q hq).1 hjq).symm
  ·rw [show (j.testBit q || !j.testBit q) = true by cases j.testBit q <;> rfl]
   exact (List.any_eq_true.2 ⟨_, m2, b2 q hq⟩).symm
end Go.Abs
