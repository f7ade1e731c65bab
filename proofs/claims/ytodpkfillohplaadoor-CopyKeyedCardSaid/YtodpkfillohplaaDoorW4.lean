/-
 Several texts: W3, W4.
-/
import Derived.Test.YtodpkfillohplaaDoorW2
set_option linter.all false
namespace Go.Abs
set_option maxRecDepth 10000
set_option maxHeartbeats 4000000
def szB (x : Nat) : Nat := if x = 0 then 0 else Nat.log2 x + 1
theorem szB_iff (x j : Nat) : j < szB x ↔ 0 < x / 2 ^ j := by
 unfold szB;split
 ·rename_i h; subst h; simp
 ·rename_i h
  rw [Nat.lt_succ_iff, Nat.le_log2 h];constructor
  ·exact fun h' => Nat.div_pos h' (Nat.pow_pos (by omega))
  ·intro h'
   apply Nat.le_of_not_lt;intro hlt;rw [Nat.div_eq_of_lt hlt] at h';omega
theorem bits_high {x n m : Nat} (h : x < 2 ^ n) : bitsN x (n + m) = bitsN x n := by
 induction m with
 | zero => rfl
 | succ m ih =>
  rw [← Nat.add_assoc, bitsN_succ, ih, Nat.testBit_lt_two_pow (Nat.lt_of_lt_of_le h (Nat.pow_le_pow_right (by omega) (by omega)))]
  rfl
theorem bits_sz {x : Nat} (h : x < 2 ^ 24) : bitsN x (szB x) = bitsN x 24 := by
 have h1 : x < 2 ^ szB x := by
  have := (szB_iff x (szB x)).2;apply Nat.lt_of_not_le;intro hle;exact Nat.lt_irrefl _ (this (Nat.div_pos hle (Nat.pow_pos (by omega))))
 by_cases hs : szB x ≤ 24
 ·obtain ⟨m, hm⟩ := Nat.exists_eq_add_of_le hs
  rw [hm, bits_high h1]
 ·obtain ⟨m, hm⟩ := Nat.exists_eq_add_of_le (show 24 ≤ szB x by omega)
  rw [hm, bits_high h]
theorem bitsN_top24 (x n : Nat) : bitsN x n ≤ n := by
 unfold bitsN;exact Nat.le_trans (List.length_filter_le ..) (by simp)
theorem bit_step (x j : Nat) : x / 2 ^ j % 2 = (x.testBit j).toNat := by
 rw [Nat.testBit_eq_decide_div_mod_eq];have := Nat.mod_lt (x / 2 ^ j) (show 0 < 2 by omega)
 by_cases h : x / 2 ^ j % 2 = 1
 ·simp [h]
 ·simp [h]; omega
def diffTo (a b : DesN) : Nat → Nat
 | 0 => 0
 | i + 1 => diffTo a b i + bitsN (a.rows.getD i 0 ^^^ b.rows.getD i 0) 24
def diffN (a b : DesN) : Nat := diffTo a b a.rows.length
theorem diffTo_le (a b : DesN) : ∀ i, diffTo a b i ≤ 24 * i
 | 0 => Nat.le_refl _
 | i + 1 => by
  have h1 := diffTo_le a b i;have h2 := bitsN_top24 (a.rows.getD i 0 ^^^ b.rows.getD i 0) 24;unfold diffTo;omega
theorem differ_ok {a b : DesN} (ha : a.Ok) (hb : b.Ok) (hr : a.rows.length = b.rows.length) : lim F 52 [setV a, setV b] = some (iv ((diffN a b : Nat) : Int), []) := by
 have r60 := ha.r60;have g1 := fun i (h : i < a.rows.length) => nats_at h
 have g2 := fun i (h : i < a.rows.length) => nats_at (l := b.rows) (i := i) (by omega)
 have hx : ∀ i, i < a.rows.length → a.rows.getD i 0 < 2 ^ 24 ∧ b.rows.getD i 0 < 2 ^ 24 := fun i h => ⟨ha.at24 h, hb.at24 (by omega)⟩
 have hl1 : (natsV a.rows).length = a.rows.length := by simp
 have hl2 : (natsV b.rows).length = a.rows.length := by simp [hr]
 have hd := diffTo_le a b;have hstep : ∀ i, diffTo a b (i + 1) = diffTo a b i + bitsN (a.rows.getD i 0 ^^^ b.rows.getD i 0) 24 := fun _ => rfl
 unfold setV diffN;generalize natsV a.rows = ra at *;generalize natsV b.rows = rb at *;refine lim_by (fn := a52) (k := 2) (res := [.tmp 4]) rfl rfl rfl (by simp -implicitDefEqProofs (maxSteps := 2000000) (disch := first | exact tt_rfl rfl | omega | (simp only [go_sem] <;> omega) | fail) only [go_sem]) ?_
 try delta mvA
 try delta opA
 try delta tA
 simp -implicitDefEqProofs (maxSteps := 2000000) (disch := first | exact tt_rfl rfl | omega | (simp only [go_sem] <;> omega) | fail) only [go_sem]
 repeat (first | apply Wp.seqA | apply Wp.skipS | apply Wp.blockS | ((first | apply Wp.regS | apply Wp.condV | apply Wp.reg | apply Wp.condW | apply fin_ret); simp -implicitDefEqProofs (maxSteps := 2000000) (disch := first | exact tt_rfl rfl | omega | (simp only [go_sem] <;> omega) | fail) only [go_sem, hl1, hl2] <;> try with_reducible rfl) | apply Wp.block | apply Wp.exitS | apply Wp.retS | apply Wp.exit | apply Wp.ret | apply Wp.skip)
 apply Wp.loopF a.rows.length (fun i => ⟨[(2, .ptr 128 0 0), (3, .ptr 192 0 0), (5, iv ((diffTo a b i : Nat) : Int)), (6, iv (i : Int))], [(128, .box [iv (a.hk : Int), .list 1 ra]), (192, .box [iv (b.hk : Int), .list 1 rb])], [], 10000000⟩) (fun _ => True)
 ·simp -implicitDefEqProofs (maxSteps := 2000000) (disch := first | exact tt_rfl rfl | omega | (simp only [go_sem] <;> omega) | fail) only [go_sem, norm_eq, Ok.some]
  rfl
 ·trivial
 intro i hi _;by_cases h : i < a.rows.length
 ·have a1 := g1 i h
  have a2 := g2 i h;obtain ⟨z1, z2⟩ := hx i h;have hdi := hd i;have w1 := w_xor (a.rows.getD i 0) (b.rows.getD i 0) (by omega) (by omega)
  have hX : a.rows.getD i 0 ^^^ b.rows.getD i 0 < 2 ^ 24 := Nat.xor_lt_two_pow z1 z2;have hst := hstep i;have hbz := bits_sz hX;rw [hst];generalize a.rows.getD i 0 ^^^ b.rows.getD i 0 = X at *;generalize a.rows.getD i 0 = xa at *;generalize b.rows.getD i 0 = xb at *;generalize diffTo a b i = n at *;clear hstep hd g1 g2 hx;repeat (first | apply Wp.seqA | apply Wp.skipS | apply Wp.blockS | ((first | apply Wp.regS | apply Wp.condV | apply Wp.reg | apply Wp.condW | apply fin_ret); simp -implicitDefEqProofs (maxSteps := 2000000) (disch := first | exact tt_rfl rfl | omega | (simp only [go_sem] <;> omega) | fail) only [go_sem, h, Int.ofNat_lt, hl1, a1, a2, w1] <;> try with_reducible rfl) | apply Wp.block | apply Wp.exitS | apply Wp.retS | apply Wp.exit | apply Wp.ret | apply Wp.skip)
  have hs24 : szB X ≤ 24 := by
   apply Nat.le_of_not_lt;intro hlt;have := (szB_iff X 24).1 hlt;rw [Nat.div_eq_of_lt hX] at this;omega
  apply Wp.loopF (szB X) (fun j => ⟨[(2, .ptr 128 0 0), (3, .ptr 192 0 0), (5, iv ((n + bitsN X j : Nat) : Int)), (6, iv (i : Int)), (7, iv ((X / 2 ^ j : Nat) : Int))], [(128, .box [iv (a.hk : Int), .list 1 ra]), (192, .box [iv (b.hk : Int), .list 1 rb])], [], 10000000⟩) (fun _ => True)
  ·simp -implicitDefEqProofs (maxSteps := 2000000) (disch := first | exact tt_rfl rfl | omega | (simp only [go_sem] <;> omega) | fail) only [go_sem, norm_eq, Ok.some]
   simp [bitsN]
  ·trivial
  intro j hj _;have q1 := bitsN_top24 X j;by_cases hj' : j < szB X
  ·have p1 := (szB_iff X j).1 hj'
   have e1 : Int.tmod ((X / 2 ^ j : Nat) : Int) 2 = ((X / 2 ^ j % 2 : Nat) : Int) := rfl;have e2 : Int.tdiv ((X / 2 ^ j : Nat) : Int) 2 = ((X / 2 ^ (j + 1) : Nat) : Int) := by
    rw [Nat.pow_succ, ← Nat.div_div_eq_div_mul]; rfl
   have e3 : ((n + bitsN X (j + 1) : Nat) : Int) = ((n + bitsN X j : Nat) : Int) + ((X / 2 ^ j % 2 : Nat) : Int) := by
    rw [bitsN_succ, ← bit_step]; omega
   have e4 : X / 2 ^ j ≤ X := Nat.div_le_self ..;have e5 : X / 2 ^ (j + 1) ≤ X := Nat.div_le_self ..;have e6 := Nat.mod_lt (X / 2 ^ j) (show 0 < 2 by omega)
   rw [e3];generalize X / 2 ^ (j + 1) = x2 at *;generalize X / 2 ^ j % 2 = b1 at *;generalize X / 2 ^ j = x1 at *;generalize bitsN X j = bj at *;repeat (first | apply Wp.seqA | apply Wp.skipS | apply Wp.blockS | ((first | apply Wp.regS | apply Wp.condV | apply Wp.reg | apply Wp.condW | apply fin_ret); simp -implicitDefEqProofs (maxSteps := 2000000) (disch := first | exact tt_rfl rfl | omega | (simp only [go_sem] <;> omega) | fail) only [go_sem, e1, e2, show (0 : Int) < (x1 : Int) by omega] <;> try with_reducible rfl) | apply Wp.block | apply Wp.exitS | apply Wp.retS | apply Wp.exit | apply Wp.ret | apply Wp.skip)
   apply round_next
   ·simp -implicitDefEqProofs (maxSteps := 2000000) (disch := first | exact tt_rfl rfl | omega | (simp only [go_sem] <;> omega) | fail) only [go_sem, norm_eq, Ok.some]; with_reducible rfl
   exact ⟨hj', by simp, trivial⟩
  ·obtain rfl : j = szB X := by omega
   have p1 : X / 2 ^ szB X = 0 := Nat.eq_zero_of_not_pos fun h => Nat.lt_irrefl _ ((szB_iff X (szB X)).2 h)
   rw [p1, hbz];have q2 := bitsN_top24 X 24;generalize bitsN X 24 = bj at *;repeat (first | apply Wp.seqA | apply Wp.skipS | apply Wp.blockS | ((first | apply Wp.regS | apply Wp.condV | apply Wp.reg | apply Wp.condW | apply fin_ret); simp -implicitDefEqProofs (maxSteps := 2000000) (disch := first | exact tt_rfl rfl | omega | (simp only [go_sem] <;> omega) | fail) only [go_sem, show ¬ (0 : Int) < ((0 : Nat) : Int) by omega] <;> try with_reducible rfl) | apply Wp.block | apply Wp.exitS | apply Wp.retS | apply Wp.exit | apply Wp.ret | apply Wp.skip)
   apply round_next
   ·simp -implicitDefEqProofs (maxSteps := 2000000) (disch := first | exact tt_rfl rfl | omega | (simp only [go_sem] <;> omega) | fail) only [go_sem, norm_eq, Ok.some]; with_reducible rfl
   exact ⟨h, by simp, trivial⟩
 ·obtain rfl : i = a.rows.length := by omega
  repeat (first | apply Wp.seqA | apply Wp.skipS | apply Wp.blockS | ((first | apply Wp.regS | apply Wp.condV | apply Wp.reg | apply Wp.condW | apply fin_ret); simp -implicitDefEqProofs (maxSteps := 2000000) (disch := first | exact tt_rfl rfl | omega | (simp only [go_sem] <;> omega) | fail) only [go_sem, Int.lt_irrefl, hl1] <;> try with_reducible rfl) | apply Wp.block | apply Wp.exitS | apply Wp.retS | apply Wp.exit | apply Wp.ret | apply Wp.skip)
theorem within_set {a b : DesN} (ha : a.Ok) (hb : b.Ok) (hr : a.rows.length = b.rows.length) (h : ∀ q j, (a.rows.getD q 0).testBit j = true → (b.rows.getD q 0).testBit j = true) : lim F 53 [setV a, setV b] = some (.bool true, []) := by
 have r60 := ha.r60;have g1 := fun i (h : i < a.rows.length) => nats_at h
 have g2 := fun i (h : i < a.rows.length) => nats_at (l := b.rows) (i := i) (by omega)
 have hx : ∀ i, i < a.rows.length → a.rows.getD i 0 < 2 ^ 24 ∧ b.rows.getD i 0 < 2 ^ 24 := fun i h => ⟨ha.at24 h, hb.at24 (by omega)⟩
 have hz : ∀ i, subN (a.rows.getD i 0) (b.rows.getD i 0) = 0 := fun i => subN_zero.2 (h i)
 have hl1 : (natsV a.rows).length = a.rows.length := by simp
 have hl2 : (natsV b.rows).length = a.rows.length := by simp [hr]
 unfold setV;generalize natsV a.rows = ra at *;generalize natsV b.rows = rb at *;refine lim_by (fn := a53) (k := 2) (res := [.tmp 4]) rfl rfl rfl (by simp -implicitDefEqProofs (maxSteps := 2000000) (disch := first | exact tt_rfl rfl | omega | (simp only [go_sem] <;> omega) | fail) only [go_sem]) ?_
 try delta mvA
 try delta opA
 try delta tA
 simp -implicitDefEqProofs (maxSteps := 2000000) (disch := first | exact tt_rfl rfl | omega | (simp only [go_sem] <;> omega) | fail) only [go_sem]
 repeat (first | apply Wp.seqA | apply Wp.skipS | apply Wp.blockS | ((first | apply Wp.regS | apply Wp.condV | apply Wp.reg | apply Wp.condW | apply fin_ret); simp -implicitDefEqProofs (maxSteps := 2000000) (disch := first | exact tt_rfl rfl | omega | (simp only [go_sem] <;> omega) | fail) only [go_sem, hl1, hl2] <;> try with_reducible rfl) | apply Wp.block | apply Wp.exitS | apply Wp.retS | apply Wp.exit | apply Wp.ret | apply Wp.skip)
 apply Wp.loopF a.rows.length (fun i => ⟨[(2, .ptr 128 0 0), (3, .ptr 192 0 0), (5, iv (i : Int))], [(128, .box [iv (a.hk : Int), .list 1 ra]), (192, .box [iv (b.hk : Int), .list 1 rb])], [], 10000000⟩) (fun _ => True)
 ·simp -implicitDefEqProofs (maxSteps := 2000000) (disch := first | exact tt_rfl rfl | omega | (simp only [go_sem] <;> omega) | fail) only [go_sem, norm_eq, Ok.some]
  rfl
 ·trivial
 intro i hi _;by_cases h' : i < a.rows.length
 ·have a1 := g1 i h'
  have a2 := g2 i h';obtain ⟨z1, z2⟩ := hx i h';have w1 := w_andN (a.rows.getD i 0) (b.rows.getD i 0) (by omega)
  rw [subN_eq (by omega), hz i] at w1
  generalize a.rows.getD i 0 = xa at *;generalize b.rows.getD i 0 = xb at *;repeat (first | apply Wp.seqA | apply Wp.skipS | apply Wp.blockS | ((first | apply Wp.regS | apply Wp.condV | apply Wp.reg | apply Wp.condW | apply fin_ret); simp -implicitDefEqProofs (maxSteps := 2000000) (disch := first | exact tt_rfl rfl | omega | (simp only [go_sem] <;> omega) | fail) only [go_sem, h', Int.ofNat_lt, hl1, a1, a2, w1, bne_self_eq_false] <;> try with_reducible rfl) | apply Wp.block | apply Wp.exitS | apply Wp.retS | apply Wp.exit | apply Wp.ret | apply Wp.skip)
  apply round_next
  ·simp -implicitDefEqProofs (maxSteps := 2000000) (disch := first | exact tt_rfl rfl | omega | (simp only [go_sem] <;> omega) | fail) only [go_sem, norm_eq, Ok.some]; with_reducible rfl
  exact ⟨h', by simp, trivial⟩
 ·obtain rfl : i = a.rows.length := by omega
  repeat (first | apply Wp.seqA | apply Wp.skipS | apply Wp.blockS | ((first | apply Wp.regS | apply Wp.condV | apply Wp.reg | apply Wp.condW | apply fin_ret); simp -implicitDefEqProofs (maxSteps := 2000000) (disch := first | exact tt_rfl rfl | omega | (simp only [go_sem] <;> omega) | fail) only [go_sem, Int.lt_irrefl, hl1] <;> try with_reducible rfl) | apply Wp.block | apply Wp.exitS | apply Wp.retS | apply Wp.exit | apply Wp.ret | apply Wp.skip)
end Go.Abs
set_option linter.all false
namespace Go.Abs
set_option maxRecDepth 10000
set_option maxHeartbeats 8000000
def wayB (x : PressB) : Bool := decide (x.way.1 % 2 = 1)
theorem way_ok (x : PressB) : lim F 49 [x.av] = some (iv (wayOf (wayB x)), []) := by
 have e0 : Int.tmod (x.way.1 : Int) 2 = ((x.way.1 % 2 : Nat) : Int) := rfl;have h := x.way.2;unfold wayB PressB.av;generalize quadsV x.rows = rs;generalize x.copies.map threeV = cs;rcases Nat.mod_two_eq_zero_or_one x.way.1 with e | e
 ·rw [e] at e0 ⊢
  generalize (x.way.1 : Int) = w at *;refine lim_by (fn := a49) (k := 1) (res := [.tmp 2]) rfl rfl rfl (by simp -implicitDefEqProofs (maxSteps := 2000000) (disch := first | exact tt_rfl rfl | omega | (simp only [go_sem] <;> omega) | fail) only [go_sem]) ?_
  try delta mvA
  try delta opA
  try delta tA
  simp -implicitDefEqProofs (maxSteps := 2000000) (disch := first | exact tt_rfl rfl | omega | (simp only [go_sem] <;> omega) | fail) only [go_sem]
  repeat (first | apply Wp.seqA | apply Wp.skipS | apply Wp.blockS | ((first | apply Wp.regS | apply Wp.condV | apply Wp.reg | apply Wp.condW | apply fin_ret); simp -implicitDefEqProofs (maxSteps := 2000000) (disch := first | exact tt_rfl rfl | omega | (simp only [go_sem] <;> omega) | fail) only [go_sem, e0] <;> try with_reducible rfl) | apply Wp.block | apply Wp.exitS | apply Wp.retS | apply Wp.exit | apply Wp.ret | apply Wp.skip)
  rfl
 ·rw [e] at e0 ⊢
  generalize (x.way.1 : Int) = w at *;refine lim_by (fn := a49) (k := 1) (res := [.tmp 2]) rfl rfl rfl (by simp -implicitDefEqProofs (maxSteps := 2000000) (disch := first | exact tt_rfl rfl | omega | (simp only [go_sem] <;> omega) | fail) only [go_sem]) ?_
  try delta mvA
  try delta opA
  try delta tA
  simp -implicitDefEqProofs (maxSteps := 2000000) (disch := first | exact tt_rfl rfl | omega | (simp only [go_sem] <;> omega) | fail) only [go_sem]
  repeat (first | apply Wp.seqA | apply Wp.skipS | apply Wp.blockS | ((first | apply Wp.regS | apply Wp.condV | apply Wp.reg | apply Wp.condW | apply fin_ret); simp -implicitDefEqProofs (maxSteps := 2000000) (disch := first | exact tt_rfl rfl | omega | (simp only [go_sem] <;> omega) | fail) only [go_sem, e0] <;> try with_reducible rfl) | apply Wp.block | apply Wp.exitS | apply Wp.retS | apply Wp.exit | apply Wp.ret | apply Wp.skip)
  rfl
theorem sized_set {a b : DesN} (ha : a.Ok) (hk : a.hk = b.hk) (hr : a.rows.length = b.rows.length) : lim F 51 [setV a, setV b] = some (.bool true, []) := by
 have r60 := ha.r60;have h24 := ha.h24;have g1 := fun i (h : i < a.rows.length) => nats_at h
 have hx : ∀ i, i < a.rows.length → a.rows.getD i 0 < 2 ^ a.hk := fun i h => ha.at h
 have hl1 : (natsV a.rows).length = a.rows.length := by simp
 have hl2 : (natsV b.rows).length = a.rows.length := by simp [hr]
 have u1 : IntKind.wrap .u64 (a.hk : Int) = a.hk := wrap_u64 (by omega) (by omega)
 have s1 := w_shl1 a.hk (by omega)
 have p1 : 2 ^ a.hk ≤ 2 ^ 24 := Nat.pow_le_pow_right (by omega) h24
 unfold setV;rw [← hk];generalize natsV a.rows = ra at *;generalize natsV b.rows = rb at *;generalize 2 ^ a.hk = pk at *;generalize a.hk = H at *;refine lim_by (fn := a51) (k := 2) (res := [.tmp 4]) rfl rfl rfl (by simp -implicitDefEqProofs (maxSteps := 2000000) (disch := first | exact tt_rfl rfl | omega | (simp only [go_sem] <;> omega) | fail) only [go_sem]) ?_
 try delta mvA
 try delta opA
 try delta tA
 simp -implicitDefEqProofs (maxSteps := 2000000) (disch := first | exact tt_rfl rfl | omega | (simp only [go_sem] <;> omega) | fail) only [go_sem]
 repeat (first | apply Wp.seqA | apply Wp.skipS | apply Wp.blockS | ((first | apply Wp.regS | apply Wp.condV | apply Wp.reg | apply Wp.condW | apply fin_ret); simp -implicitDefEqProofs (maxSteps := 2000000) (disch := first | exact tt_rfl rfl | omega | (simp only [go_sem] <;> omega) | fail) only [go_sem, hl1, hl2, bne_self_eq_false] <;> try with_reducible rfl) | apply Wp.block | apply Wp.exitS | apply Wp.retS | apply Wp.exit | apply Wp.ret | apply Wp.skip)
 apply Wp.loopF a.rows.length (fun i => ⟨[(2, .ptr 128 0 0), (5, iv (i : Int))], [(128, .box [iv (H : Int), .list 1 ra])], [], 10000000⟩) (fun _ => True)
 ·simp -implicitDefEqProofs (maxSteps := 2000000) (disch := first | exact tt_rfl rfl | omega | (simp only [go_sem] <;> omega) | fail) only [go_sem, norm_eq, Ok.some]
  rfl
 ·trivial
 intro i hi _;by_cases h' : i < a.rows.length
 ·have a1 := g1 i h'
  have z1 := hx i h';generalize a.rows.getD i 0 = xa at *;repeat (first | apply Wp.seqA | apply Wp.skipS | apply Wp.blockS | ((first | apply Wp.regS | apply Wp.condV | apply Wp.reg | apply Wp.condW | apply fin_ret); simp -implicitDefEqProofs (maxSteps := 2000000) (disch := first | exact tt_rfl rfl | omega | (simp only [go_sem] <;> omega) | fail) only [go_sem, h', Int.ofNat_lt, hl1, a1, u1, s1, Int.toNat_natCast, show ¬ (xa : Int) < 0 by omega, show ¬ (pk : Int) ≤ (xa : Int) by omega, decide_false] <;> try with_reducible rfl) | apply Wp.block | apply Wp.exitS | apply Wp.retS | apply Wp.exit | apply Wp.ret | apply Wp.skip)
  apply round_next
  ·simp -implicitDefEqProofs (maxSteps := 2000000) (disch := first | exact tt_rfl rfl | omega | (simp only [go_sem] <;> omega) | fail) only [go_sem, norm_eq, Ok.some]; with_reducible rfl
  exact ⟨h', by simp, trivial⟩
 ·obtain rfl : i = a.rows.length := by omega
  repeat (first | apply Wp.seqA | apply Wp.skipS | apply Wp.blockS | ((first | apply Wp.regS | apply Wp.condV | apply Wp.reg | apply Wp.condW | apply fin_ret); simp -implicitDefEqProofs (maxSteps := 2000000) (disch := first | exact tt_rfl rfl | omega | (simp only [go_sem] <;> omega) | fail) only [go_sem, Int.lt_irrefl, hl1] <;> try with_reducible rfl) | apply Wp.block | apply Wp.exitS | apply Wp.retS | apply Wp.exit | apply Wp.ret | apply Wp.skip)
structure MadeS where
 l : List DesN
 from_ : List Int
 chg : Nat
 most : Nat
def csrc (x : PressB) (i : Nat) : ByteB × ByteB × ByteB := x.copies[i]?.getD (0, 0, 0)
def parS (x : PressB) (l : List DesN) (i : Nat) : DesN := if (csrc x i).1.1 % (i + 1) = 0 then origN x else l.getD ((csrc x i).1.1 % (i + 1) - 1) (origN x)
def madeTo (x : PressB) : Nat → MadeS
 | 0 => ⟨[], [], 0, 0⟩
 | i + 1 => ⟨(madeTo x i).l ++ [chgD (wayB x) (parS x (madeTo x i).l i) (csrc x i)], (madeTo x i).from_ ++ [(((csrc x i).1.1 % (i + 1) : Nat) : Int) - 1],
   (madeTo x i).chg + (chgTo (wayB x) (parS x (madeTo x i).l i) (csrc x i) (chgN (csrc x i))).2, max (madeTo x i).most (diffN (origN x) (chgD (wayB x) (parS x (madeTo x i).l i) (csrc x i)))⟩
def manyC (x : PressB) : Nat := max 1 (min x.copies.length 8)
theorem chgD_ok (t : Bool) {d : DesN} (h : d.Ok) (c : ByteB × ByteB × ByteB) : (chgD t d c).Ok where
 h1 := h.h1
 h24 := h.h24
 r1 := by simp [chgD]; exact h.r1
 r60 := by simp [chgD]; exact h.r60
 lt := chgTo_lt t h c _
structure LikeO (x : PressB) (d : DesN) : Prop where
 ok : d.Ok
 hk : d.hk = (origN x).hk
 rows : d.rows.length = (origN x).rows.length
theorem like_self (x : PressB) : LikeO x (origN x) := ⟨orig_ok x, rfl, rfl⟩
theorem LikeO.chg {x : PressB} {d : DesN} (h : LikeO x d) (t : Bool) (c : ByteB × ByteB × ByteB) : LikeO x (chgD t d c) := ⟨chgD_ok t h.ok c, h.hk, by simp [chgD, h.rows]⟩
theorem parS_like {x : PressB} {l : List DesN} {i : Nat} (h : ∀ d ∈ l, LikeO x d) : LikeO x (parS x l i) := by
 unfold parS;split
 ·exact like_self x
 ·rw [List.getD_eq_getElem?_getD]
  cases e : l[(csrc x i).1.1 % (i + 1) - 1]? with
  | none => exact like_self x
  | some d => exact h d (List.mem_of_getElem? e)
@[simp] theorem madeTo_len (x : PressB) : ∀ i, (madeTo x i).l.length = i ∧ (madeTo x i).from_.length = i
 | 0 => ⟨rfl, rfl⟩
 | i + 1 => by simp [madeTo, madeTo_len x i]
theorem madeTo_like (x : PressB) : ∀ i, ∀ d ∈ (madeTo x i).l, LikeO x d
 | 0, d, h => by cases h
 | i + 1, d, h => by
  rcases List.mem_append.1 h with h | h
  ·exact madeTo_like x i d h
  ·rw [List.mem_singleton.1 h]
   exact (parS_like (madeTo_like x i)).chg _ _
theorem madeTo_chg (x : PressB) : ∀ i, (madeTo x i).chg ≤ 3 * i
 | 0 => Nat.le_refl _
 | i + 1 => by
  have h1 := madeTo_chg x i;have h2 := chgTo_le (wayB x) (parS x (madeTo x i).l i) (csrc x i) (chgN (csrc x i));have h3 : chgN (csrc x i) < 4 := Nat.mod_lt _ (by omega)
  simp only [madeTo];omega
theorem diffN_le {x : PressB} {d : DesN} : diffN (origN x) d ≤ 144 := by
 have h1 := diffTo_le (origN x) d (origN x).rows.length;have h2 := orig_rows x;unfold diffN;omega
theorem madeTo_most (x : PressB) : ∀ i, (madeTo x i).most ≤ 144
 | 0 => by simp [madeTo]
 | i + 1 => by
  have h1 := madeTo_most x i;have h2 := diffN_le (x := x) (d := chgD (wayB x) (parS x (madeTo x i).l i) (csrc x i));simp only [madeTo];omega
theorem setV_at {l : List DesN} {i : Nat} (h : i < l.length) : (l.map setV)[i]? = some (setV l[i]) := by
 rw [List.getElem?_map, List.getElem?_eq_getElem h]; rfl
theorem made_ok (x : PressB) : lim F 50 [x.av] = some (.tuple [.own 2 ((madeTo x (manyC x)).l.map setV), .own 1 ((madeTo x (manyC x)).from_.map fun n => iv n), iv (((madeTo x (manyC x)).chg : Nat) : Int), iv (((madeTo x (manyC x)).most : Nat) : Int)], []) := by
 have hO := original_ok x;have hW := way_ok x;have hlen : (x.copies.map threeV).length = x.copies.length := by simp
 have hcat : ∀ i (h : i < x.copies.length), (x.copies.map threeV)[i]? = some (threeV (csrc x i)) := fun i h => by
  unfold csrc;rw [List.getElem?_map, List.getElem?_eq_getElem h]; rfl
 have hcno : ∀ i, ¬ i < x.copies.length → csrc x i = (0, 0, 0) := fun i h => by
  unfold csrc;rw [List.getElem?_eq_none (by omega)]; rfl
 have hz : threeV (0, 0, 0) = .agg [.int .u8 0, .int .u8 0, .int .u8 0] := rfl;have hll := fun i => (madeTo_len x i).1
 have hlf := fun i => (madeTo_len x i).2
 have hch := madeTo_chg x;have hmo := madeTo_most x;unfold PressB.av at *;refine lim_by (fn := a50) (k := 1) (res := [.tmp 2, .tmp 3, .tmp 4, .tmp 5]) rfl rfl rfl (by simp -implicitDefEqProofs (maxSteps := 2000000) (disch := first | exact tt_rfl rfl | omega | (simp only [go_sem] <;> omega) | fail) only [go_sem]) ?_
 try delta mvA
 try delta opA
 try delta tA
 simp -implicitDefEqProofs (maxSteps := 2000000) (disch := first | exact tt_rfl rfl | omega | (simp only [go_sem] <;> omega) | fail) only [go_sem]
 repeat (first | apply Wp.seqA | apply Wp.skipS | apply Wp.blockS | ((first | apply Wp.regS | apply Wp.condV | apply Wp.reg | apply Wp.condW | apply fin_ret); simp -implicitDefEqProofs (maxSteps := 2000000) (disch := first | exact tt_rfl rfl | omega | (simp only [go_sem] <;> omega) | fail) only [go_sem, hO] <;> try with_reducible rfl) | apply Wp.block | apply Wp.exitS | apply Wp.retS | apply Wp.exit | apply Wp.ret | apply Wp.skip)
 generalize hN : manyC x = N;have hN' : N = max 1 (min x.copies.length 8) := hN.symm;clear hN;apply Wp.loopF N (fun i => ⟨[(1, .ptr 64 0 0), (2, .slice 128 0 i), (3, .slice 192 0 i), (4, iv (((madeTo x i).chg : Nat) : Int)), (5, iv (((madeTo x i).most : Nat) : Int)), (6, .ptr 384 0 0), (7, iv (i : Int))], [(64, .box [.int .u8 (x.hk.1 : Int), .list 1 (quadsV x.rows), .int .u8 (x.way.1 : Int), .list 3 (x.copies.map threeV)]), (128, .arr 2 ((madeTo x i).l.map setV)), (192, .arr 1 ((madeTo x i).from_.map fun n => iv n)), (384, .box [iv ((origN x).hk : Int), .list 1 (natsV (origN x).rows)])], [], 10000000⟩) (fun _ => True)
 ·simp -implicitDefEqProofs (maxSteps := 2000000) (disch := first | exact tt_rfl rfl | omega | (simp only [go_sem] <;> omega) | fail) only [go_sem, norm_eq, Ok.some]
  rfl
 ·trivial
 intro i hi _;have l1 : ((madeTo x i).l.map setV).length = i := by simp
 have l2 : ((madeTo x i).from_.map fun n => iv n).length = i := by simp
 have c1 := hch i;have c2 := hmo i;by_cases h' : i < N
 ·have hcond : (i : Int) = 0 ∨ (¬ (i : Int) = 0 ∧ (i : Int) < x.copies.length ∧ (i : Int) < 8) := by omega
  have hpar := parS_like (x := x) (i := i) (madeTo_like x i);have hC := change_ok (wayB x) (parS x (madeTo x i).l i) hpar.ok (csrc x i);have hD := differ_ok (orig_ok x) (hpar.chg (wayB x) (csrc x i)).ok (hpar.chg (wayB x) (csrc x i)).rows.symm;have c3 := chgTo_le (wayB x) (parS x (madeTo x i).l i) (csrc x i) (chgN (csrc x i));have c4 : chgN (csrc x i) < 4 := Nat.mod_lt _ (by omega)
  have c5 := diffN_le (x := x) (d := chgD (wayB x) (parS x (madeTo x i).l i) (csrc x i));have st1 : (madeTo x (i + 1)).l.map setV = (madeTo x i).l.map setV ++ [setV (chgD (wayB x) (parS x (madeTo x i).l i) (csrc x i))] := by simp [madeTo]
  have st2 : ((madeTo x (i + 1)).from_.map fun n => iv n) = ((madeTo x i).from_.map fun n => iv n) ++ [iv ((((csrc x i).1.1 % (i + 1) : Nat) : Int) - 1)] := by simp [madeTo]
  have st3 : (((madeTo x (i + 1)).chg : Nat) : Int) = (((madeTo x i).chg : Nat) : Int) + (((chgTo (wayB x) (parS x (madeTo x i).l i) (csrc x i) (chgN (csrc x i))).2 : Nat) : Int) := by simp [madeTo]
  have st4 : (((madeTo x (i + 1)).most : Nat) : Int) = max (((madeTo x i).most : Nat) : Int) ((diffN (origN x) (chgD (wayB x) (parS x (madeTo x i).l i) (csrc x i)) : Nat) : Int) := by simp only [madeTo]; omega
  rw [st1, st2, st3, st4];have hko : (chgD (wayB x) (parS x (madeTo x i).l i) (csrc x i)).hk = (origN x).hk := hpar.hk;have hm := Nat.mod_lt (csrc x i).1.1 (show 0 < i + 1 by omega)
  have e1 : Int.tmod ((csrc x i).1.1 : Int) ((i : Int) + 1) = (((csrc x i).1.1 % (i + 1) : Nat) : Int) := by
   rw [show (i : Int) + 1 = ((i + 1 : Nat) : Int) by omega]; rfl
  have hpa : (csrc x i).1.1 % (i + 1) = 0 ∧ parS x (madeTo x i).l i = origN x ∨ 0 < (csrc x i).1.1 % (i + 1) ∧ ((madeTo x i).l.map setV)[(csrc x i).1.1 % (i + 1) - 1]? = some (.agg [iv ((origN x).hk : Int), .list 1 (natsV (parS x (madeTo x i).l i).rows)]) := by
   by_cases h0 : (csrc x i).1.1 % (i + 1) = 0
   ·exact .inl ⟨h0, by unfold parS; rw [if_pos h0]⟩
   ·refine .inr ⟨by omega, ?_⟩
    have hlt : (csrc x i).1.1 % (i + 1) - 1 < (madeTo x i).l.length := by rw [hll]; omega
    have e : parS x (madeTo x i).l i = (madeTo x i).l[(csrc x i).1.1 % (i + 1) - 1] := by
     unfold parS;rw [if_neg h0, List.getD_eq_getElem?_getD, List.getElem?_eq_getElem hlt]; rfl
    rw [setV_at hlt, e];have := (madeTo_like x i _ (List.getElem_mem hlt)).hk;unfold setV;rw [this]
  have hrl : (natsV (chgD (wayB x) (parS x (madeTo x i).l i) (csrc x i)).rows).length = (origN x).rows.length := by simp [chgD, hpar.rows]
  have cb := (csrc x i).1.2;clear hll hlf hch hmo st1 st2 st3 st4;generalize hLs : (madeTo x i).l.map setV = Ls at *;generalize hFs : (madeTo x i).from_.map (fun n => iv n) = Fs at *
  unfold setV at hD ⊢;rw [hko] at hD ⊢;rw [hpar.hk] at hC;have hcd : i < x.copies.length ∧ (x.copies.map threeV)[i]? = some (.agg [.int .u8 ((csrc x i).1.1 : Int), .int .u8 ((csrc x i).2.1.1 : Int), .int .u8 ((csrc x i).2.2.1 : Int)]) ∨ ¬ i < x.copies.length ∧ csrc x i = (0, 0, 0) := by
   by_cases hl : i < x.copies.length
   ·exact .inl ⟨hl, hcat i hl⟩
   ·exact .inr ⟨hl, hcno i hl⟩
  unfold threeV at hC;clear hcat hcno hz;rcases hcd with ⟨hl, hca⟩ | ⟨hl, hc0⟩
  ·generalize natsV (chgD (wayB x) (parS x (madeTo x i).l i) (csrc x i)).rows = CR at *
   generalize diffN (origN x) (chgD (wayB x) (parS x (madeTo x i).l i) (csrc x i)) = df at *;generalize (chgTo (wayB x) (parS x (madeTo x i).l i) (csrc x i) (chgN (csrc x i))).2 = nc at *;generalize (madeTo x i).chg = ch at *;generalize (madeTo x i).most = mo at *;rcases hpa with ⟨h0, hp⟩ | ⟨h0, hp⟩
   ·rw [hp] at hC
    generalize (csrc x i).1.1 % (i + 1) = m at *;generalize ((csrc x i).1.1 : Nat) = v0 at *;generalize natsV (origN x).rows = OR at *;subst h0;rcases hcond with hi0 | ⟨hi0, hi1, hi2⟩
    ·have hi0' := eq_true hi0
     clear hi0;repeat (first | apply Wp.seqA | apply Wp.skipS | apply Wp.blockS | ((first | apply Wp.regS | apply Wp.condV | apply Wp.reg | apply Wp.condW | apply fin_ret); simp -implicitDefEqProofs (maxSteps := 2000000) (disch := first | exact tt_rfl rfl | omega | (simp only [go_sem] <;> omega) | fail) only [go_sem, hi0', hl, Int.ofNat_lt, hlen, hca, hW, hC, hD, e1, l1, l2, hrl, decide_true, decide_false] <;> try with_reducible rfl) | apply Wp.block | apply Wp.exitS | apply Wp.retS | apply Wp.exit | apply Wp.ret | apply Wp.skip)
     apply round_next
     ·simp -implicitDefEqProofs (maxSteps := 2000000) (disch := first | exact tt_rfl rfl | omega | (simp only [go_sem] <;> omega) | fail) only [go_sem, norm_eq, Ok.some]; with_reducible rfl
     exact ⟨h', by simp, trivial⟩
    ·repeat (first | apply Wp.seqA | apply Wp.skipS | apply Wp.blockS | ((first | apply Wp.regS | apply Wp.condV | apply Wp.reg | apply Wp.condW | apply fin_ret); simp -implicitDefEqProofs (maxSteps := 2000000) (disch := first | exact tt_rfl rfl | omega | (simp only [go_sem] <;> omega) | fail) only [go_sem, hi0, hi1, hi2, hl, Int.ofNat_lt, hlen, hca, hW, hC, hD, e1, l1, l2, hrl, decide_true, decide_false, show ¬ (i : Int) + 1 = 0 by omega] <;> try with_reducible rfl) | apply Wp.block | apply Wp.exitS | apply Wp.retS | apply Wp.exit | apply Wp.ret | apply Wp.skip)
     apply round_next
     ·simp -implicitDefEqProofs (maxSteps := 2000000) (disch := first | exact tt_rfl rfl | omega | (simp only [go_sem] <;> omega) | fail) only [go_sem, norm_eq, Ok.some]; with_reducible rfl
     exact ⟨h', by simp, trivial⟩
   ·have hip : 0 < i := by omega
    generalize (csrc x i).1.1 % (i + 1) = m at *;generalize ((csrc x i).1.1 : Nat) = v0 at *;generalize natsV (parS x (madeTo x i).l i).rows = PR at *;generalize natsV (origN x).rows = OR at *;have hk1 : ((m : Int) - 1).toNat = m - 1 := by omega
    rcases hcond with hi0 | ⟨hi0, hi1, hi2⟩
    ·omega
    ·repeat (first | apply Wp.seqA | apply Wp.skipS | apply Wp.blockS | ((first | apply Wp.regS | apply Wp.condV | apply Wp.reg | apply Wp.condW | apply fin_ret); simp -implicitDefEqProofs (maxSteps := 2000000) (disch := first | exact tt_rfl rfl | omega | (simp only [go_sem] <;> omega) | fail) only [go_sem, hi0, hi1, hi2, hl, Int.ofNat_lt, hlen, hca, hW, hC, hD, e1, l1, l2, hrl, hp, hk1, Nat.zero_add, decide_true, decide_false, show ¬ (i : Int) + 1 = 0 by omega, show (0 : Int) ≤ (m : Int) - 1 by omega] <;> try with_reducible rfl) | apply Wp.block | apply Wp.exitS | apply Wp.retS | apply Wp.exit | apply Wp.ret | apply Wp.skip)
     apply round_next
     ·simp -implicitDefEqProofs (maxSteps := 2000000) (disch := first | exact tt_rfl rfl | omega | (simp only [go_sem] <;> omega) | fail) only [go_sem, norm_eq, Ok.some]; with_reducible rfl
     exact ⟨h', by simp, trivial⟩
  ·have hi0 : i = 0 := by omega
   rw [hc0] at e1 cb hC hD hrl hpa c3 c4 c5 ⊢;have hp : parS x (madeTo x i).l i = origN x := by
    unfold parS;rw [hc0, if_pos (by simp)]
   have hm0 : ((0, 0, 0) : ByteB × ByteB × ByteB).1.1 % (i + 1) = 0 := by simp
   rw [hm0] at e1 ⊢;clear hpa hm;generalize natsV (chgD (wayB x) (parS x (madeTo x i).l i) (0, 0, 0)).rows = CR at *;generalize diffN (origN x) (chgD (wayB x) (parS x (madeTo x i).l i) (0, 0, 0)) = df at *;generalize (chgTo (wayB x) (parS x (madeTo x i).l i) (0, 0, 0) (chgN (0, 0, 0))).2 = nc at *;rw [hp] at hC;generalize (madeTo x i).chg = ch at *;generalize (madeTo x i).most = mo at *;generalize natsV (origN x).rows = OR at *;subst hi0;have h0' : (((0 : Nat) : Int) = 0) = True := eq_true rfl;change lim F _ [_, _, .agg [.int .u8 0, .int .u8 0, .int .u8 0]] = _ at hC;change Int.tmod 0 _ = _ at e1;repeat (first | apply Wp.seqA | apply Wp.skipS | apply Wp.blockS | ((first | apply Wp.regS | apply Wp.condV | apply Wp.reg | apply Wp.condW | apply fin_ret); simp -implicitDefEqProofs (maxSteps := 2000000) (disch := first | exact tt_rfl rfl | omega | (simp only [go_sem] <;> omega) | fail) only [go_sem, h0', hl, Int.ofNat_lt, hlen, hW, hC, hD, e1, l1, l2, hrl, decide_true, decide_false] <;> try with_reducible rfl) | apply Wp.block | apply Wp.exitS | apply Wp.retS | apply Wp.exit | apply Wp.ret | apply Wp.skip)
   apply round_next
   ·simp -implicitDefEqProofs (maxSteps := 2000000) (disch := first | exact tt_rfl rfl | omega | (simp only [go_sem] <;> omega) | fail) only [go_sem, norm_eq, Ok.some]; with_reducible rfl
   exact ⟨h', by simp, trivial⟩
 ·obtain rfl : i = N := by omega
  have h0 : ¬ (i : Int) = 0 := by omega
  have P2 := int_plain (madeTo x i).from_;have t1 : ((madeTo x i).l.map setV).take i = (madeTo x i).l.map setV := List.take_of_length_le (by omega)
  have t2 : ((madeTo x i).from_.map fun n => iv n).take i = (madeTo x i).from_.map fun n => iv n := List.take_of_length_le (by omega)
  generalize (madeTo x i).l.map setV = Ls at *;generalize (madeTo x i).from_.map (fun n => iv n) = Fs at *
  generalize (madeTo x i).chg = ch at *;generalize (madeTo x i).most = mo at *;by_cases hl : (i : Int) < x.copies.length
  ·repeat (first | apply Wp.seqA | apply Wp.skipS | apply Wp.blockS | ((first | apply Wp.regS | apply Wp.condV | apply Wp.reg | apply Wp.condW | apply fin_ret); simp -implicitDefEqProofs (maxSteps := 2000000) (disch := first | exact tt_rfl rfl | omega | (simp only [go_sem] <;> omega) | fail) only [go_sem, h0, hl, hlen, l1, l2, P2, t1, t2, decide_true, decide_false, show ¬ (i : Int) < 8 by omega] <;> try with_reducible rfl) | apply Wp.block | apply Wp.exitS | apply Wp.retS | apply Wp.exit | apply Wp.ret | apply Wp.skip)
  ·repeat (first | apply Wp.seqA | apply Wp.skipS | apply Wp.blockS | ((first | apply Wp.regS | apply Wp.condV | apply Wp.reg | apply Wp.condW | apply fin_ret); simp -implicitDefEqProofs (maxSteps := 2000000) (disch := first | exact tt_rfl rfl | omega | (simp only [go_sem] <;> omega) | fail) only [go_sem, h0, hl, hlen, l1, l2, P2, t1, t2, decide_true, decide_false] <;> try with_reducible rfl) | apply Wp.block | apply Wp.exitS | apply Wp.retS | apply Wp.exit | apply Wp.ret | apply Wp.skip)
end Go.Abs
