/-
 Chapter 12: keys of cards, lists that are held against each other. No condition beyond those that each theorem names.
-/
import Derived.Test.YtodpkfillohplaaDoorP1
import Derived.Test.YtodpkfillohplaaDoorY2
import Derived.Test.YtodpkfillohplaaDoorB6
set_option linter.all false
namespace Go.Abs
set_option maxRecDepth 10000
set_option maxHeartbeats 4000000

theorem bit_eq (r h : Nat) : decide (((r >>> h &&& 1 : Nat) : Int) = 1) = r.testBit h := by
 rw [shr_and1]
 cases r.testBit h <;> simp
theorem subN_eq {a b : Nat} (h : a < 9223372036854775808) : andN a b = subN a b := by
 apply Nat.eq_of_testBit_eq
 intro j
 rw [andN_bit h, subN_bit]
theorem keyOf_ok (r : Nat) (h : r < 2 ^ 24) : lim F 75 [iv (r : Int)] = some (.agg [iv ((bitsN r 24 : Nat) : Int), iv ((sumB r 24 : Nat) : Int)], []) := by
 obtain ⟨z1, z2⟩ := it_end h
 have hb : bitsN r 24 ≤ 24 := by
  unfold bitsN
  exact Nat.le_trans (List.length_filter_le _ _) (by simp)
 have hne := fun i (hi : i < bitsN r 24) => it_ne h hi
 have hsl : ∀ i, i ≤ bitsN r 24 → itS r i ≤ 576 := fun i hi => by
  have h1 := (it_inv h i hi).2
  have h2 := sumB_le r 24
  omega
 refine lim_by (fn := a75) (k := 1) (res := [.cell 2 2 true]) rfl rfl rfl (by simp -implicitDefEqProofs (maxSteps := 2000000) (disch := first | exact tt_rfl rfl | omega | (simp only [go_sem] <;> omega) | fail) only [go_sem]) ?_
 try delta mvA
 try delta opA
 try delta tA
 simp -implicitDefEqProofs (maxSteps := 2000000) (disch := first | exact tt_rfl rfl | omega | (simp only [go_sem] <;> omega) | fail) only [go_sem]
 repeat (first | apply Wp.seqA | apply Wp.skipS | apply Wp.blockS | ((first | apply Wp.regS | apply Wp.condV | apply Wp.reg | apply Wp.condW | apply fin_ret); simp -implicitDefEqProofs (maxSteps := 2000000) (disch := first | exact tt_rfl rfl | omega | (simp only [go_sem] <;> omega) | fail) only [go_sem] <;> try with_reducible rfl) | apply Wp.block | apply Wp.exitS | apply Wp.retS | apply Wp.exit | apply Wp.ret | apply Wp.skip)
 apply Wp.loopF (bitsN r 24) (fun i => ⟨[(0, iv ((itR r i : Nat) : Int)), (2, .ptr 128 0 0)], [(128, .box [iv (i : Int), iv ((itS r i : Nat) : Int)])], [], 10000000⟩) (fun _ => True)
 ·simp -implicitDefEqProofs (maxSteps := 2000000) (disch := first | exact tt_rfl rfl | omega | (simp only [go_sem] <;> omega) | fail) only [go_sem, norm_eq, Ok.some]
  rfl
 ·trivial
 intro i hi _
 by_cases hlt : i < bitsN r 24
 ·have h0 := hne i hlt
  have h1 := itR_lt h i
  have h2 := TrailingZeros64_ok (itR r i) _ h1 (lowN_is h0)
  have h3 := wu_nat (n := itR r i) (by omega)
  have h4 := w_and (itR r i) (itR r i - 1) (by omega) (by omega)
  have h5 : ((itR r i : Nat) : Int) - 1 = ((itR r i - 1 : Nat) : Int) := by omega
  have h6 := hsl (i + 1) (by omega)
  have e1 : itR r (i + 1) = itR r i &&& (itR r i - 1) := rfl
  have e2 : itS r (i + 1) = itS r i + lowN (itR r i) := rfl
  rw [e1, e2]
  rw [e2] at h6
  generalize lowN (itR r i) = lo at *
  generalize itS r i = s at *
  generalize itR r i &&& (itR r i - 1) = y at *
  generalize itR r i - 1 = x1 at *
  generalize itR r i = x at *
  repeat (first | apply Wp.seqA | apply Wp.skipS | apply Wp.blockS | ((first | apply Wp.regS | apply Wp.condV | apply Wp.reg | apply Wp.condW | apply fin_ret); simp -implicitDefEqProofs (maxSteps := 2000000) (disch := first | exact tt_rfl rfl | omega | (simp only [go_sem] <;> omega) | fail) only [go_sem, h2, h3, h4, h5, show ¬ (x : Int) = 0 by omega] <;> try with_reducible rfl) | apply Wp.block | apply Wp.exitS | apply Wp.retS | apply Wp.exit | apply Wp.ret | apply Wp.skip)
  apply round_next
  ·simp -implicitDefEqProofs (maxSteps := 2000000) (disch := first | exact tt_rfl rfl | omega | (simp only [go_sem] <;> omega) | fail) only [go_sem, norm_eq, Ok.some]; with_reducible rfl
  exact ⟨hlt, by simp, trivial⟩
 ·obtain rfl : i = bitsN r 24 := by omega
  rw [z1, z2]
  repeat (first | apply Wp.seqA | apply Wp.skipS | apply Wp.blockS | ((first | apply Wp.regS | apply Wp.condV | apply Wp.reg | apply Wp.condW | apply fin_ret); simp -implicitDefEqProofs (maxSteps := 2000000) (disch := first | exact tt_rfl rfl | omega | (simp only [go_sem] <;> omega) | fail) only [go_sem] <;> try with_reducible rfl) | apply Wp.block | apply Wp.exitS | apply Wp.retS | apply Wp.exit | apply Wp.ret | apply Wp.skip)
theorem bits_le (r : Nat) : bitsN r 24 ≤ 24 := by
 unfold bitsN
 exact Nat.le_trans (List.length_filter_le _ _) (by simp)
def natsV (l : List Nat) : List AV := l.map fun n : Nat => iv (n : Int)
@[simp] theorem nats_len (l : List Nat) : (natsV l).length = l.length := by simp [natsV]
theorem nats_at {l : List Nat} {i : Nat} (h : i < l.length) : (natsV l)[i]? = some (iv ((l.getD i 0 : Nat) : Int)) := by
 unfold natsV
 rw [List.getElem?_map, List.getD_eq_getElem?_getD, List.getElem?_eq_getElem h]; rfl
@[go_sem] theorem nats_plain (l : List Nat) : (natsV l).all AV.plain = true := nat_plain l
theorem rows_get {l : List Nat} {i : Nat} (h : i < l.length) : l.getD i 0 = l[i] := by
 rw [List.getD_eq_getElem?_getD, List.getElem?_eq_getElem h]; rfl
theorem DesN.Ok.at {d : DesN} (h : d.Ok) {i : Nat} (hi : i < d.rows.length) : d.rows.getD i 0 < 2 ^ d.hk := by
 rw [rows_get hi]; exact h.lt _ (List.getElem_mem hi)
theorem DesN.Ok.at24 {d : DesN} (h : d.Ok) {i : Nat} (hi : i < d.rows.length) : d.rows.getD i 0 < 2 ^ 24 :=
 Nat.lt_of_lt_of_le (h.at hi) (Nat.pow_le_pow_right (by omega) h.h24)
def keysTo (d : DesN) (i : Nat) : List Nat := (List.range i).map fun i => keyN (d.rows.getD i 0)
@[simp] theorem keysTo_len (d : DesN) (i : Nat) : (keysTo d i).length = i := by simp [keysTo]
def setV (d : DesN) : AV := .agg [iv (d.hk : Int), .list 1 (natsV d.rows)]
theorem setV_av (d : DesN) : d.a.av = setV d := DesN.a_av d
def keysE (n : Nat) (l : List Int) : Int := if l.length ≠ n then 4 else if l.all (fun k => decide (-1 ≤ k ∧ k ≤ 27624)) then 0 else 2
theorem checkKeys_ok (n : Nat) (l : List Int) (hl : l.length ≤ 1000000) : lim F 77 [iv (n : Int), .list 1 (l.map fun k => iv k)] = some (iv (keysE n l), []) := by
 have hw := within_ok (-1) 27624 l (by omega)
 have hln : (l.map fun k => iv k).length = l.length := by simp
 unfold keysE
 by_cases h1 : l.length = n
 ·rw [if_neg (by simpa using h1)]
  generalize l.map (fun k => iv k) = es at *
  refine lim_by (fn := a77) (k := 2) (res := [.tmp 4]) rfl rfl rfl (by simp -implicitDefEqProofs (maxSteps := 2000000) (disch := first | exact tt_rfl rfl | omega | (simp only [go_sem] <;> omega) | fail) only [go_sem]) ?_
  try delta mvA
  try delta opA
  try delta tA
  simp -implicitDefEqProofs (maxSteps := 2000000) (disch := first | exact tt_rfl rfl | omega | (simp only [go_sem] <;> omega) | fail) only [go_sem]
  cases hb : l.all (fun k => decide (-1 ≤ k ∧ k ≤ 27624))
  all_goals
   rw [hb] at hw
   repeat (first | apply Wp.seqA | apply Wp.skipS | apply Wp.blockS | ((first | apply Wp.regS | apply Wp.condV | apply Wp.reg | apply Wp.condW | apply fin_ret); simp -implicitDefEqProofs (maxSteps := 2000000) (disch := first | exact tt_rfl rfl | omega | (simp only [go_sem] <;> omega) | fail) only [go_sem, hw, hln, show ((l.length : Int) = (n : Int)) = True from eq_true (by omega), ite_true, ite_false] <;> try with_reducible rfl) | apply Wp.block | apply Wp.exitS | apply Wp.retS | apply Wp.exit | apply Wp.ret | apply Wp.skip)
 ·rw [if_pos h1]
  generalize l.map (fun k => iv k) = es at *
  refine lim_by (fn := a77) (k := 2) (res := [.tmp 4]) rfl rfl rfl (by simp -implicitDefEqProofs (maxSteps := 2000000) (disch := first | exact tt_rfl rfl | omega | (simp only [go_sem] <;> omega) | fail) only [go_sem]) ?_
  try delta mvA
  try delta opA
  try delta tA
  simp -implicitDefEqProofs (maxSteps := 2000000) (disch := first | exact tt_rfl rfl | omega | (simp only [go_sem] <;> omega) | fail) only [go_sem]
  repeat (first | apply Wp.seqA | apply Wp.skipS | apply Wp.blockS | ((first | apply Wp.regS | apply Wp.condV | apply Wp.reg | apply Wp.condW | apply fin_ret); simp -implicitDefEqProofs (maxSteps := 2000000) (disch := first | exact tt_rfl rfl | omega | (simp only [go_sem] <;> omega) | fail) only [go_sem, hln, show ¬ ((l.length : Int) = (n : Int)) by omega] <;> try with_reducible rfl) | apply Wp.block | apply Wp.exitS | apply Wp.retS | apply Wp.exit | apply Wp.ret | apply Wp.skip)
theorem ref12Keys_ok (a : Int) (rows : List AV) (l : List Int) (hl : l.length ≤ 1000000) (hr : rows.length ≤ 1000000) : lim F 45 [.agg [iv a, .list 1 rows], .list 1 (l.map fun k => iv k)] = some (iv (keysE rows.length l), []) := by
 unfold keysE
 by_cases h1 : l.length = rows.length
 ·rw [if_neg (by simpa using h1)]
  refine lim_by (fn := a45) (k := 2) (res := [.tmp 4]) rfl rfl rfl (by simp -implicitDefEqProofs (maxSteps := 2000000) (disch := first | exact tt_rfl rfl | omega | (simp only [go_sem] <;> omega) | fail) only [go_sem]) ?_
  try delta mvA
  try delta opA
  try delta tA
  simp -implicitDefEqProofs (maxSteps := 2000000) (disch := first | exact tt_rfl rfl | omega | (simp only [go_sem] <;> omega) | fail) only [go_sem]
  repeat (first | apply Wp.seqA | apply Wp.skipS | apply Wp.blockS | ((first | apply Wp.regS | apply Wp.condV | apply Wp.reg | apply Wp.condW | apply fin_ret); simp -implicitDefEqProofs (maxSteps := 2000000) (disch := first | exact tt_rfl rfl | omega | (simp only [go_sem] <;> omega) | fail) only [go_sem, List.length_map, show ((l.length : Int) = (rows.length : Int)) = True from eq_true (by omega)] <;> try with_reducible rfl) | apply Wp.block | apply Wp.exitS | apply Wp.retS | apply Wp.exit | apply Wp.ret | apply Wp.skip)
  apply Wp.loopF l.length (fun i => ⟨[(1, .list 1 (l.map fun k => iv k)), (5, iv (i : Int))], [], [], 10000000⟩) (fun i => ∀ j (hj : j < l.length), j < i → (-1 ≤ l[j] ∧ l[j] ≤ 27624))
  ·simp -implicitDefEqProofs (maxSteps := 2000000) (disch := first | exact tt_rfl rfl | omega | (simp only [go_sem] <;> omega) | fail) only [go_sem, norm_eq, Ok.some]
   rfl
  ·intro j hj h; omega
  intro i hi hn
  by_cases h : i < l.length
  ·have i1 := refIn_ok l[i] (-1) 27624
   by_cases hb : -1 ≤ l[i] ∧ l[i] ≤ 27624
   ·repeat (first | apply Wp.seqA | apply Wp.skipS | apply Wp.blockS | ((first | apply Wp.regS | apply Wp.condV | apply Wp.reg | apply Wp.condW | apply fin_ret); simp -implicitDefEqProofs (maxSteps := 2000000) (disch := first | exact tt_rfl rfl | omega | (simp only [go_sem] <;> omega) | fail) only [go_sem, h, List.length_map, List.getElem?_map, List.getElem?_eq_getElem h, Option.map_some, Int.ofNat_lt, i1, hb] <;> try with_reducible rfl) | apply Wp.block | apply Wp.exitS | apply Wp.retS | apply Wp.exit | apply Wp.ret | apply Wp.skip)
    apply round_next
    ·simp -implicitDefEqProofs (maxSteps := 2000000) (disch := first | exact tt_rfl rfl | omega | (simp only [go_sem] <;> omega) | fail) only [go_sem, norm_eq, Ok.some]; with_reducible rfl
    refine ⟨h, by simp, fun j hj hji => ?_⟩
    by_cases e : j = i
    ·subst e; exact hb
    ·exact hn j hj (by omega)
   ·repeat (first | apply Wp.seqA | apply Wp.skipS | apply Wp.blockS | ((first | apply Wp.regS | apply Wp.condV | apply Wp.reg | apply Wp.condW | apply fin_ret); simp -implicitDefEqProofs (maxSteps := 2000000) (disch := first | exact tt_rfl rfl | omega | (simp only [go_sem] <;> omega) | fail) only [go_sem, h, List.length_map, List.getElem?_map, List.getElem?_eq_getElem h, Option.map_some, Int.ofNat_lt, i1, hb] <;> try with_reducible rfl) | apply Wp.block | apply Wp.exitS | apply Wp.retS | apply Wp.exit | apply Wp.ret | apply Wp.skip)
    rw [if_neg]
    intro hh
    exact hb (by simpa using List.all_eq_true.1 hh _ (List.getElem_mem h))
  ·repeat (first | apply Wp.seqA | apply Wp.skipS | apply Wp.blockS | ((first | apply Wp.regS | apply Wp.condV | apply Wp.reg | apply Wp.condW | apply fin_ret); simp -implicitDefEqProofs (maxSteps := 2000000) (disch := first | exact tt_rfl rfl | omega | (simp only [go_sem] <;> omega) | fail) only [go_sem, h, List.length_map, Int.ofNat_lt] <;> try with_reducible rfl) | apply Wp.block | apply Wp.exitS | apply Wp.retS | apply Wp.exit | apply Wp.ret | apply Wp.skip)
   rw [if_pos]
   refine List.all_eq_true.2 fun r hr => ?_
   obtain ⟨j, hj, rfl⟩ := List.getElem_of_mem hr
   exact decide_eq_true (hn j hj (by omega))
 ·rw [if_pos h1]
  refine lim_by (fn := a45) (k := 2) (res := [.tmp 4]) rfl rfl rfl (by simp -implicitDefEqProofs (maxSteps := 2000000) (disch := first | exact tt_rfl rfl | omega | (simp only [go_sem] <;> omega) | fail) only [go_sem]) ?_
  try delta mvA
  try delta opA
  try delta tA
  simp -implicitDefEqProofs (maxSteps := 2000000) (disch := first | exact tt_rfl rfl | omega | (simp only [go_sem] <;> omega) | fail) only [go_sem]
  repeat (first | apply Wp.seqA | apply Wp.skipS | apply Wp.blockS | ((first | apply Wp.regS | apply Wp.condV | apply Wp.reg | apply Wp.condW | apply fin_ret); simp -implicitDefEqProofs (maxSteps := 2000000) (disch := first | exact tt_rfl rfl | omega | (simp only [go_sem] <;> omega) | fail) only [go_sem, List.length_map, show ¬ ((l.length : Int) = (rows.length : Int)) by omega] <;> try with_reducible rfl) | apply Wp.block | apply Wp.exitS | apply Wp.retS | apply Wp.exit | apply Wp.ret | apply Wp.skip)
theorem refKey_ok (r : Nat) (h : r < 2 ^ 24) : lim F 44 [iv (r : Int)] = some (iv ((keyN r : Nat) : Int), []) := by
 have hs : ∀ i, keyTo r i ≤ 100 * (i * i) + i := fun i => by
  rw [keyTo_eq]
  have h1 := sumB_le r i
  have h2 : bitsN r i ≤ i := by
   unfold bitsN
   exact Nat.le_trans (List.length_filter_le _ _) (by simp)
  omega
 rw [show keyN r = keyTo r 24 from (keyTo_eq r 24).symm]
 refine lim_by (fn := a44) (k := 1) (res := [.tmp 2]) rfl rfl rfl (by simp -implicitDefEqProofs (maxSteps := 2000000) (disch := first | exact tt_rfl rfl | omega | (simp only [go_sem] <;> omega) | fail) only [go_sem]) ?_
 try delta mvA
 try delta opA
 try delta tA
 simp -implicitDefEqProofs (maxSteps := 2000000) (disch := first | exact tt_rfl rfl | omega | (simp only [go_sem] <;> omega) | fail) only [go_sem]
 repeat (first | apply Wp.seqA | apply Wp.skipS | apply Wp.blockS | ((first | apply Wp.regS | apply Wp.condV | apply Wp.reg | apply Wp.condW | apply fin_ret); simp -implicitDefEqProofs (maxSteps := 2000000) (disch := first | exact tt_rfl rfl | omega | (simp only [go_sem] <;> omega) | fail) only [go_sem] <;> try with_reducible rfl) | apply Wp.block | apply Wp.exitS | apply Wp.retS | apply Wp.exit | apply Wp.ret | apply Wp.skip)
 apply Wp.loopF 24 (fun i => ⟨[(0, iv (r : Int)), (3, iv ((keyTo r i : Nat) : Int)), (4, iv (i : Int))], [], [], 10000000⟩) (fun _ => True)
 ·simp -implicitDefEqProofs (maxSteps := 2000000) (disch := first | exact tt_rfl rfl | omega | (simp only [go_sem] <;> omega) | fail) only [go_sem, norm_eq, Ok.some]
  rfl
 ·trivial
 intro i hi _
 by_cases h' : i < 24
 ·have u1 : IntKind.wrap .u64 (i : Int) = i := wrap_u64 (by omega) (by omega)
  have s1 := w_shr r i (by omega)
  have sb : r >>> i < 9223372036854775808 := by rw [Nat.shiftRight_eq_div_pow]; have := Nat.div_le_self r (2 ^ i); omega
  have s2 := w_and1 (r >>> i) sb
  have eb := bit_eq r i
  have e1 : keyTo r (i + 1) = keyTo r i + (if r.testBit i then 1 + 100 * i else 0) := rfl
  have hk := hs (i + 1)
  have hii : i * i ≤ 576 := Nat.mul_le_mul (show i ≤ 24 by omega) (show i ≤ 24 by omega)
  have hi2 : (i + 1) * (i + 1) ≤ 576 := Nat.mul_le_mul (show i + 1 ≤ 24 by omega) (show i + 1 ≤ 24 by omega)
  rw [e1] at hk ⊢
  generalize keyTo r i = kt at *
  have es : (kt : Int) + (1 + 100 * (i : Int)) = ((kt + (1 + 100 * i) : Nat) : Int) := by omega
  cases hb : r.testBit i
  ·rw [hb] at eb
   generalize r >>> i &&& 1 = y at *
   generalize r >>> i = z at *
   repeat (first | apply Wp.seqA | apply Wp.skipS | apply Wp.blockS | ((first | apply Wp.regS | apply Wp.condV | apply Wp.reg | apply Wp.condW | apply fin_ret); simp -implicitDefEqProofs (maxSteps := 2000000) (disch := first | exact tt_rfl rfl | omega | (simp only [go_sem] <;> omega) | fail) only [go_sem, u1, s1, s2, eb, Int.toNat_natCast, show (i : Int) < 24 by omega, decide_false] <;> try with_reducible rfl) | apply Wp.block | apply Wp.exitS | apply Wp.retS | apply Wp.exit | apply Wp.ret | apply Wp.skip)
   apply round_next
   ·simp -implicitDefEqProofs (maxSteps := 2000000) (disch := first | exact tt_rfl rfl | omega | (simp only [go_sem] <;> omega) | fail) only [go_sem, norm_eq, Ok.some]; with_reducible rfl
   exact ⟨h', by simp, trivial⟩
  ·rw [hb] at eb hk
   generalize r >>> i &&& 1 = y at *
   generalize r >>> i = z at *
   repeat (first | apply Wp.seqA | apply Wp.skipS | apply Wp.blockS | ((first | apply Wp.regS | apply Wp.condV | apply Wp.reg | apply Wp.condW | apply fin_ret); simp -implicitDefEqProofs (maxSteps := 2000000) (disch := first | exact tt_rfl rfl | omega | (simp only [go_sem] <;> omega) | fail) only [go_sem, u1, s1, s2, eb, es, Int.toNat_natCast, show (i : Int) < 24 by omega, decide_true] <;> try with_reducible rfl) | apply Wp.block | apply Wp.exitS | apply Wp.retS | apply Wp.exit | apply Wp.ret | apply Wp.skip)
   apply round_next
   ·simp -implicitDefEqProofs (maxSteps := 2000000) (disch := first | exact tt_rfl rfl | omega | (simp only [go_sem] <;> omega) | fail) only [go_sem, norm_eq, Ok.some]; with_reducible rfl
   exact ⟨h', by simp, trivial⟩
 ·obtain rfl : i = 24 := by omega
  repeat (first | apply Wp.seqA | apply Wp.skipS | apply Wp.blockS | ((first | apply Wp.regS | apply Wp.condV | apply Wp.reg | apply Wp.condW | apply fin_ret); simp -implicitDefEqProofs (maxSteps := 2000000) (disch := first | exact tt_rfl rfl | omega | (simp only [go_sem] <;> omega) | fail) only [go_sem] <;> try with_reducible rfl) | apply Wp.block | apply Wp.exitS | apply Wp.retS | apply Wp.exit | apply Wp.ret | apply Wp.skip)
end Go.Abs
