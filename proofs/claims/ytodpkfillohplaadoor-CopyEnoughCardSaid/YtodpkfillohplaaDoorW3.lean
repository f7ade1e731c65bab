/-
 Chapter 12: sets, compared. No condition beyond those that each theorem names.
-/
import Derived.Test.YtodpkfillohplaaDoorW2
set_option linter.all false
namespace Go.Abs
set_option maxRecDepth 10000
set_option maxHeartbeats 4000000
def szB (x : Nat) : Nat := if x = 0 then 0 else Nat.log2 x + 1
theorem szB_iff (x j : Nat) : j < szB x ↔ 0 < x / 2 ^ j := by
 unfold szB;split
 ·rename_i h; subst h; simp
 ·rename_i h
  rw [Nat.lt_succ_iff, Nat.le_log2 h];constructor
  ·exact fun h' => Nat.div_pos h' (Nat.pow_pos (by omega))
  ·intro h'
   apply Nat.le_of_not_lt;intro hlt;rw [Nat.div_eq_of_lt hlt] at h';omega
theorem bits_high {x n m : Nat} (h : x < 2 ^ n) : bitsN x (n + m) = bitsN x n := by
 induction m with
 | zero => rfl
 | succ m ih =>
  rw [← Nat.add_assoc, bitsN_succ, ih, Nat.testBit_lt_two_pow (Nat.lt_of_lt_of_le h (Nat.pow_le_pow_right (by omega) (by omega)))]
  rfl
theorem bits_sz {x : Nat} (h : x < 2 ^ 24) : bitsN x (szB x) = bitsN x 24 := by
 have h1 : x < 2 ^ szB x := by
  have := (szB_iff x (szB x)).2;apply Nat.lt_of_not_le;intro hle;exact Nat.lt_irrefl _ (this (Nat.div_pos hle (Nat.pow_pos (by omega))))
 by_cases hs : szB x ≤ 24
 ·obtain ⟨m, hm⟩ := Nat.exists_eq_add_of_le hs
  rw [hm, bits_high h1]
 ·obtain ⟨m, hm⟩ := Nat.exists_eq_add_of_le (show 24 ≤ szB x by omega)
  rw [hm, bits_high h]
theorem bitsN_top24 (x n : Nat) : bitsN x n ≤ n := by
 unfold bitsN;exact Nat.le_trans (List.length_filter_le ..) (by simp)
theorem bit_step (x j : Nat) : x / 2 ^ j % 2 = (x.testBit j).toNat := by
 rw [Nat.testBit_eq_decide_div_mod_eq];have := Nat.mod_lt (x / 2 ^ j) (show 0 < 2 by omega)
 by_cases h : x / 2 ^ j % 2 = 1
 ·simp [h]
 ·simp [h]; omega
def diffTo (a b : DesN) : Nat → Nat
 | 0 => 0
 | i + 1 => diffTo a b i + bitsN (a.rows.getD i 0 ^^^ b.rows.getD i 0) 24
def diffN (a b : DesN) : Nat := diffTo a b a.rows.length
theorem diffTo_le (a b : DesN) : ∀ i, diffTo a b i ≤ 24 * i
 | 0 => Nat.le_refl _
 | i + 1 => by
  have h1 := diffTo_le a b i;have h2 := bitsN_top24 (a.rows.getD i 0 ^^^ b.rows.getD i 0) 24;unfold diffTo;omega
theorem differ_ok {a b : DesN} (ha : a.Ok) (hb : b.Ok) (hr : a.rows.length = b.rows.length) : lim F 52 [setV a, setV b] = some (iv ((diffN a b : Nat) : Int), []) := by
 have r60 := ha.r60;have g1 := fun i (h : i < a.rows.length) => nats_at h
 have g2 := fun i (h : i < a.rows.length) => nats_at (l := b.rows) (i := i) (by omega)
 have hx : ∀ i, i < a.rows.length → a.rows.getD i 0 < 2 ^ 24 ∧ b.rows.getD i 0 < 2 ^ 24 := fun i h => ⟨ha.at24 h, hb.at24 (by omega)⟩
 have hl1 : (natsV a.rows).length = a.rows.length := by simp
 have hl2 : (natsV b.rows).length = a.rows.length := by simp [hr]
 have hd := diffTo_le a b;have hstep : ∀ i, diffTo a b (i + 1) = diffTo a b i + bitsN (a.rows.getD i 0 ^^^ b.rows.getD i 0) 24 := fun _ => rfl
 unfold setV diffN;generalize natsV a.rows = ra at *;generalize natsV b.rows = rb at *;refine lim_by (fn := a52) (k := 2) (res := [.tmp 4]) rfl rfl rfl (by simp -implicitDefEqProofs (maxSteps := 2000000) (disch := first | exact tt_rfl rfl | omega | (simp only [go_sem] <;> omega) | fail) only [go_sem]) ?_
 try delta mvA
 try delta opA
 try delta tA
 simp -implicitDefEqProofs (maxSteps := 2000000) (disch := first | exact tt_rfl rfl | omega | (simp only [go_sem] <;> omega) | fail) only [go_sem]
 repeat (first | apply Wp.seqA | apply Wp.skipS | apply Wp.blockS | ((first | apply Wp.regS | apply Wp.condV | apply Wp.reg | apply Wp.condW | apply fin_ret); simp -implicitDefEqProofs (maxSteps := 2000000) (disch := first | exact tt_rfl rfl | omega | (simp only [go_sem] <;> omega) | fail) only [go_sem, hl1, hl2] <;> try with_reducible rfl) | apply Wp.block | apply Wp.exitS | apply Wp.retS | apply Wp.exit | apply Wp.ret | apply Wp.skip)
 apply Wp.loopF a.rows.length (fun i => ⟨[(2, .ptr 128 0 0), (3, .ptr 192 0 0), (5, iv ((diffTo a b i : Nat) : Int)), (6, iv (i : Int))], [(128, .box [iv (a.hk : Int), .list 1 ra]), (192, .box [iv (b.hk : Int), .list 1 rb])], [], 10000000⟩) (fun _ => True)
 ·simp -implicitDefEqProofs (maxSteps := 2000000) (disch := first | exact tt_rfl rfl | omega | (simp only [go_sem] <;> omega) | fail) only [go_sem, norm_eq, Ok.some]
  rfl
 ·trivial
 intro i hi _;by_cases h : i < a.rows.length
 ·have a1 := g1 i h
  have a2 := g2 i h;obtain ⟨z1, z2⟩ := hx i h;have hdi := hd i;have w1 := w_xor (a.rows.getD i 0) (b.rows.getD i 0) (by omega) (by omega)
  have hX : a.rows.getD i 0 ^^^ b.rows.getD i 0 < 2 ^ 24 := Nat.xor_lt_two_pow z1 z2;have hst := hstep i;have hbz := bits_sz hX;rw [hst];generalize a.rows.getD i 0 ^^^ b.rows.getD i 0 = X at *;generalize a.rows.getD i 0 = xa at *;generalize b.rows.getD i 0 = xb at *;generalize diffTo a b i = n at *;clear hstep hd g1 g2 hx;repeat (first | apply Wp.seqA | apply Wp.skipS | apply Wp.blockS | ((first | apply Wp.regS | apply Wp.condV | apply Wp.reg | apply Wp.condW | apply fin_ret); simp -implicitDefEqProofs (maxSteps := 2000000) (disch := first | exact tt_rfl rfl | omega | (simp only [go_sem] <;> omega) | fail) only [go_sem, h, Int.ofNat_lt, hl1, a1, a2, w1] <;> try with_reducible rfl) | apply Wp.block | apply Wp.exitS | apply Wp.retS | apply Wp.exit | apply Wp.ret | apply Wp.skip)
  have hs24 : szB X ≤ 24 := by
   apply Nat.le_of_not_lt;intro hlt;have := (szB_iff X 24).1 hlt;rw [Nat.div_eq_of_lt hX] at this;omega
  apply Wp.loopF (szB X) (fun j => ⟨[(2, .ptr 128 0 0), (3, .ptr 192 0 0), (5, iv ((n + bitsN X j : Nat) : Int)), (6, iv (i : Int)), (7, iv ((X / 2 ^ j : Nat) : Int))], [(128, .box [iv (a.hk : Int), .list 1 ra]), (192, .box [iv (b.hk : Int), .list 1 rb])], [], 10000000⟩) (fun _ => True)
  ·simp -implicitDefEqProofs (maxSteps := 2000000) (disch := first | exact tt_rfl rfl | omega | (simp only [go_sem] <;> omega) | fail) only [go_sem, norm_eq, Ok.some]
   simp [bitsN]
  ·trivial
  intro j hj _;have q1 := bitsN_top24 X j;by_cases hj' : j < szB X
  ·have p1 := (szB_iff X j).1 hj'
   have e1 : Int.tmod ((X / 2 ^ j : Nat) : Int) 2 = ((X / 2 ^ j % 2 : Nat) : Int) := rfl;have e2 : Int.tdiv ((X / 2 ^ j : Nat) : Int) 2 = ((X / 2 ^ (j + 1) : Nat) : Int) := by
    rw [Nat.pow_succ, ← Nat.div_div_eq_div_mul]; rfl
   have e3 : ((n + bitsN X (j + 1) : Nat) : Int) = ((n + bitsN X j : Nat) : Int) + ((X / 2 ^ j % 2 : Nat) : Int) := by
    rw [bitsN_succ, ← bit_step]; omega
   have e4 : X / 2 ^ j ≤ X := Nat.div_le_self ..;have e5 : X / 2 ^ (j + 1) ≤ X := Nat.div_le_self ..;have e6 := Nat.mod_lt (X / 2 ^ j) (show 0 < 2 by omega)
   rw [e3];generalize X / 2 ^ (j + 1) = x2 at *;generalize X / 2 ^ j % 2 = b1 at *;generalize X / 2 ^ j = x1 at *;generalize bitsN X j = bj at *;repeat (first | apply Wp.seqA | apply Wp.skipS | apply Wp.blockS | ((first | apply Wp.regS | apply Wp.condV | apply Wp.reg | apply Wp.condW | apply fin_ret); simp -implicitDefEqProofs (maxSteps := 2000000) (disch := first | exact tt_rfl rfl | omega | (simp only [go_sem] <;> omega) | fail) only [go_sem, e1, e2, show (0 : Int) < (x1 : Int) by omega] <;> try with_reducible rfl) | apply Wp.block | apply Wp.exitS | apply Wp.retS | apply Wp.exit | apply Wp.ret | apply Wp.skip)
   apply round_next
   ·simp -implicitDefEqProofs (maxSteps := 2000000) (disch := first | exact tt_rfl rfl | omega | (simp only [go_sem] <;> omega) | fail) only [go_sem, norm_eq, Ok.some]; with_reducible rfl
   exact ⟨hj', by simp, trivial⟩
  ·obtain rfl : j = szB X := by omega
   have p1 : X / 2 ^ szB X = 0 := Nat.eq_zero_of_not_pos fun h => Nat.lt_irrefl _ ((szB_iff X (szB X)).2 h)
   rw [p1, hbz];have q2 := bitsN_top24 X 24;generalize bitsN X 24 = bj at *;repeat (first | apply Wp.seqA | apply Wp.skipS | apply Wp.blockS | ((first | apply Wp.regS | apply Wp.condV | apply Wp.reg | apply Wp.condW | apply fin_ret); simp -implicitDefEqProofs (maxSteps := 2000000) (disch := first | exact tt_rfl rfl | omega | (simp only [go_sem] <;> omega) | fail) only [go_sem, show ¬ (0 : Int) < ((0 : Nat) : Int) by omega] <;> try with_reducible rfl) | apply Wp.block | apply Wp.exitS | apply Wp.retS | apply Wp.exit | apply Wp.ret | apply Wp.skip)
   apply round_next
   ·simp -implicitDefEqProofs (maxSteps := 2000000) (disch := first | exact tt_rfl rfl | omega | (simp only [go_sem] <;> omega) | fail) only [go_sem, norm_eq, Ok.some]; with_reducible rfl
   exact ⟨h, by simp, trivial⟩
 ·obtain rfl : i = a.rows.length := by omega
  repeat (first | apply Wp.seqA | apply Wp.skipS | apply Wp.blockS | ((first | apply Wp.regS | apply Wp.condV | apply Wp.reg | apply Wp.condW | apply fin_ret); simp -implicitDefEqProofs (maxSteps := 2000000) (disch := first | exact tt_rfl rfl | omega | (simp only [go_sem] <;> omega) | fail) only [go_sem, Int.lt_irrefl, hl1] <;> try with_reducible rfl) | apply Wp.block | apply Wp.exitS | apply Wp.retS | apply Wp.exit | apply Wp.ret | apply Wp.skip)
end Go.Abs
