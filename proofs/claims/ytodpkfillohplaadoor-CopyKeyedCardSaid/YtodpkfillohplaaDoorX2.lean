/-
 Chapter 12: keys of cards, lists that are held against each other. No condition beyond those that each theorem names.
-/
import Derived.Test.YtodpkfillohplaaDoorP1
import Derived.Test.YtodpkfillohplaaDoorY2
import Derived.Test.YtodpkfillohplaaDoorB6
set_option linter.all false
namespace Go.Abs
set_option maxRecDepth 10000
set_option maxHeartbeats 4000000
theorem bit_eq (r h : Nat) : decide (((r >>> h &&& 1 : Nat) : Int) = 1) = r.testBit h := by
 rw [shr_and1];cases r.testBit h <;> simp
theorem subN_eq {a b : Nat} (h : a < 9223372036854775808) : andN a b = subN a b := by
 apply Nat.eq_of_testBit_eq;intro j;rw [andN_bit h, subN_bit]
theorem keyOf_ok (r : Nat) (h : r < 2 ^ 24) : lim F 75 [iv (r : Int)] = some (.agg [iv ((bitsN r 24 : Nat) : Int), iv ((sumB r 24 : Nat) : Int)], []) := by
 obtain ⟨z1, z2⟩ := it_end h;have hb : bitsN r 24 ≤ 24 := by
  unfold bitsN;exact Nat.le_trans (List.length_filter_le _ _) (by simp)
 have hne := fun i (hi : i < bitsN r 24) => it_ne h hi
 have hsl : ∀ i, i ≤ bitsN r 24 → itS r i ≤ 576 := fun i hi => by
  have h1 := (it_inv h i hi).2;have h2 := sumB_le r 24;omega
 refine lim_by (fn := a75) (k := 1) (res := [.cell 2 2 true]) rfl rfl rfl (by simp -implicitDefEqProofs (maxSteps := 2000000) (disch := first | exact tt_rfl rfl | omega | (simp only [go_sem] <;> omega) | fail) only [go_sem]) ?_
 try delta mvA
 try delta opA
 try delta tA
 simp -implicitDefEqProofs (maxSteps := 2000000) (disch := first | exact tt_rfl rfl | omega | (simp only [go_sem] <;> omega) | fail) only [go_sem]
 repeat (first | apply Wp.seqA | apply Wp.skipS | apply Wp.blockS | ((first | apply Wp.regS | apply Wp.condV | apply Wp.reg | apply Wp.condW | apply fin_ret); simp -implicitDefEqProofs (maxSteps := 2000000) (disch := first | exact tt_rfl rfl | omega | (simp only [go_sem] <;> omega) | fail) only [go_sem] <;> try with_reducible rfl) | apply Wp.block | apply Wp.exitS | apply Wp.retS | apply Wp.exit | apply Wp.ret | apply Wp.skip)
 apply Wp.loopF (bitsN r 24) (fun i => ⟨[(0, iv ((itR r i : Nat) : Int)), (2, .ptr 128 0 0)], [(128, .box [iv (i : Int), iv ((itS r i : Nat) : Int)])], [], 10000000⟩) (fun _ => True)
 ·simp -implicitDefEqProofs (maxSteps := 2000000) (disch := first | exact tt_rfl rfl | omega | (simp only [go_sem] <;> omega) | fail) only [go_sem, norm_eq, Ok.some]
  rfl
 ·trivial
 intro i hi _;by_cases hlt : i < bitsN r 24
 ·have h0 := hne i hlt
  have h1 := itR_lt h i;have h2 := TrailingZeros64_ok (itR r i) _ h1 (lowN_is h0);have h3 := wu_nat (n := itR r i) (by omega)
  have h4 := w_and (itR r i) (itR r i - 1) (by omega) (by omega)
  have h5 : ((itR r i : Nat) : Int) - 1 = ((itR r i - 1 : Nat) : Int) := by omega
  have h6 := hsl (i + 1) (by omega)
  have e1 : itR r (i + 1) = itR r i &&& (itR r i - 1) := rfl;have e2 : itS r (i + 1) = itS r i + lowN (itR r i) := rfl;rw [e1, e2];rw [e2] at h6;generalize lowN (itR r i) = lo at *;generalize itS r i = s at *;generalize itR r i &&& (itR r i - 1) = y at *;generalize itR r i - 1 = x1 at *;generalize itR r i = x at *;repeat (first | apply Wp.seqA | apply Wp.skipS | apply Wp.blockS | ((first | apply Wp.regS | apply Wp.condV | apply Wp.reg | apply Wp.condW | apply fin_ret); simp -implicitDefEqProofs (maxSteps := 2000000) (disch := first | exact tt_rfl rfl | omega | (simp only [go_sem] <;> omega) | fail) only [go_sem, h2, h3, h4, h5, show ¬ (x : Int) = 0 by omega] <;> try with_reducible rfl) | apply Wp.block | apply Wp.exitS | apply Wp.retS | apply Wp.exit | apply Wp.ret | apply Wp.skip)
  apply round_next
  ·simp -implicitDefEqProofs (maxSteps := 2000000) (disch := first | exact tt_rfl rfl | omega | (simp only [go_sem] <;> omega) | fail) only [go_sem, norm_eq, Ok.some]; with_reducible rfl
  exact ⟨hlt, by simp, trivial⟩
 ·obtain rfl : i = bitsN r 24 := by omega
  rw [z1, z2];repeat (first | apply Wp.seqA | apply Wp.skipS | apply Wp.blockS | ((first | apply Wp.regS | apply Wp.condV | apply Wp.reg | apply Wp.condW | apply fin_ret); simp -implicitDefEqProofs (maxSteps := 2000000) (disch := first | exact tt_rfl rfl | omega | (simp only [go_sem] <;> omega) | fail) only [go_sem] <;> try with_reducible rfl) | apply Wp.block | apply Wp.exitS | apply Wp.retS | apply Wp.exit | apply Wp.ret | apply Wp.skip)
theorem number_ok (a b : Nat) (ha : a ≤ 24) (hb : b ≤ 576) : lim F 76 [.agg [iv (a : Int), iv (b : Int)]] = some (iv ((a + 100 * b : Nat) : Int), []) := by
 have e : (a : Int) + 100 * (b : Int) = ((a + 100 * b : Nat) : Int) := by omega
 refine lim_by (fn := a76) (k := 1) (res := [.tmp 2]) rfl rfl rfl (by simp -implicitDefEqProofs (maxSteps := 2000000) (disch := first | exact tt_rfl rfl | omega | (simp only [go_sem] <;> omega) | fail) only [go_sem]) ?_
 try delta mvA
 try delta opA
 try delta tA
 simp -implicitDefEqProofs (maxSteps := 2000000) (disch := first | exact tt_rfl rfl | omega | (simp only [go_sem] <;> omega) | fail) only [go_sem]
 repeat (first | apply Wp.seqA | apply Wp.skipS | apply Wp.blockS | ((first | apply Wp.regS | apply Wp.condV | apply Wp.reg | apply Wp.condW | apply fin_ret); simp -implicitDefEqProofs (maxSteps := 2000000) (disch := first | exact tt_rfl rfl | omega | (simp only [go_sem] <;> omega) | fail) only [go_sem, e] <;> try with_reducible rfl) | apply Wp.block | apply Wp.exitS | apply Wp.retS | apply Wp.exit | apply Wp.ret | apply Wp.skip)
theorem bits_le (r : Nat) : bitsN r 24 ≤ 24 := by
 unfold bitsN;exact Nat.le_trans (List.length_filter_le _ _) (by simp)
def natsV (l : List Nat) : List AV := l.map fun n : Nat => iv (n : Int)
@[simp] theorem nats_len (l : List Nat) : (natsV l).length = l.length := by simp [natsV]
theorem nats_at {l : List Nat} {i : Nat} (h : i < l.length) : (natsV l)[i]? = some (iv ((l.getD i 0 : Nat) : Int)) := by
 unfold natsV;rw [List.getElem?_map, List.getD_eq_getElem?_getD, List.getElem?_eq_getElem h]; rfl
theorem nats_snoc (l : List Nat) (x : Nat) : natsV (l ++ [x]) = natsV l ++ [iv (x : Int)] := by simp [natsV]
@[go_sem] theorem nats_plain (l : List Nat) : (natsV l).all AV.plain = true := nat_plain l
theorem rows_get {l : List Nat} {i : Nat} (h : i < l.length) : l.getD i 0 = l[i] := by
 rw [List.getD_eq_getElem?_getD, List.getElem?_eq_getElem h]; rfl
theorem DesN.Ok.at {d : DesN} (h : d.Ok) {i : Nat} (hi : i < d.rows.length) : d.rows.getD i 0 < 2 ^ d.hk := by
 rw [rows_get hi]; exact h.lt _ (List.getElem_mem hi)
theorem DesN.Ok.at24 {d : DesN} (h : d.Ok) {i : Nat} (hi : i < d.rows.length) : d.rows.getD i 0 < 2 ^ 24 :=
 Nat.lt_of_lt_of_le (h.at hi) (Nat.pow_le_pow_right (by omega) h.h24)
def keysTo (d : DesN) (i : Nat) : List Nat := (List.range i).map fun i => keyN (d.rows.getD i 0)
theorem keysTo_succ (d : DesN) (i : Nat) : keysTo d (i + 1) = keysTo d i ++ [keyN (d.rows.getD i 0)] := by
 unfold keysTo; rw [List.range_succ, List.map_append]; rfl
@[simp] theorem keysTo_len (d : DesN) (i : Nat) : (keysTo d i).length = i := by simp [keysTo]
def setV (d : DesN) : AV := .agg [iv (d.hk : Int), .list 1 (natsV d.rows)]
theorem setV_av (d : DesN) : d.a.av = setV d := DesN.a_av d
theorem Keys_ok (d : DesN) (hd : d.Ok) : lim F 41 [setV d] = some (.tuple [.own 1 (natsV (keysTo d d.rows.length)), iv 0], []) := by
 have h60 := hd.r60;have hc := setE_ok d.a (by simp [DesN.a]; omega)
 rw [checkD_ok hd, setV_av] at hc;have hln : (natsV d.rows).length = d.rows.length := by simp
 have hg : ∀ i, i < d.rows.length → (natsV d.rows)[i]? = some (iv ((d.rows.getD i 0 : Nat) : Int)) := fun i h => nats_at h
 have hk := fun i (h : i < d.rows.length) => keyOf_ok (d.rows.getD i 0) (hd.at24 h)
 have hst : ∀ i, natsV (keysTo d (i + 1)) = natsV (keysTo d i) ++ [iv ((keyN (d.rows.getD i 0) : Nat) : Int)] := fun i => by rw [keysTo_succ, nats_snoc]
 have hl0 : ∀ i, (natsV (keysTo d i)).length = i := fun i => by simp
 have hpl : ∀ i, (natsV (keysTo d i)).all AV.plain = true := fun i => nat_plain _
 unfold setV at *;generalize natsV d.rows = es at *;refine lim_by (fn := a41) (k := 1) (res := [.tmp 2, .tmp 3]) rfl rfl rfl (by simp -implicitDefEqProofs (maxSteps := 2000000) (disch := first | exact tt_rfl rfl | omega | (simp only [go_sem] <;> omega) | fail) only [go_sem]) ?_
 try delta mvA
 try delta opA
 try delta tA
 simp -implicitDefEqProofs (maxSteps := 2000000) (disch := first | exact tt_rfl rfl | omega | (simp only [go_sem] <;> omega) | fail) only [go_sem]
 repeat (first | apply Wp.seqA | apply Wp.skipS | apply Wp.blockS | ((first | apply Wp.regS | apply Wp.condV | apply Wp.reg | apply Wp.condW | apply fin_ret); simp -implicitDefEqProofs (maxSteps := 2000000) (disch := first | exact tt_rfl rfl | omega | (simp only [go_sem] <;> omega) | fail) only [go_sem, hc, hln] <;> try with_reducible rfl) | apply Wp.block | apply Wp.exitS | apply Wp.retS | apply Wp.exit | apply Wp.ret | apply Wp.skip)
 apply Wp.loopF d.rows.length (fun i => ⟨[(2, .slice 128 0 i), (13, .list 1 es), (14, iv (d.rows.length : Int)), (15, iv (i : Int))], [(128, .arr 1 (natsV (keysTo d i)))], [], 10000000⟩) (fun _ => True)
 ·simp -implicitDefEqProofs (maxSteps := 2000000) (disch := first | exact tt_rfl rfl | omega | (simp only [go_sem] <;> omega) | fail) only [go_sem, norm_eq, Ok.some]
  rfl
 ·trivial
 intro i hi _;by_cases h : i < d.rows.length
 ·have h1 := hg i h
  have h2 := hk i h;have h3 := number_ok (bitsN (d.rows.getD i 0) 24) (sumB (d.rows.getD i 0) 24) (bits_le _) (sumB_le _ 24);have e := hst i;have hl := hl0 i;change lim F _ _ = some (iv ((keyN (d.rows.getD i 0) : Nat) : Int), []) at h3;generalize natsV (keysTo d (i + 1)) = L' at *;generalize natsV (keysTo d i) = L at *;generalize keyN (d.rows.getD i 0) = kn at *;generalize bitsN (d.rows.getD i 0) 24 = b1 at *;generalize sumB (d.rows.getD i 0) 24 = b2 at *;generalize d.rows.getD i 0 = r at *;repeat (first | apply Wp.seqA | apply Wp.skipS | apply Wp.blockS | ((first | apply Wp.regS | apply Wp.condV | apply Wp.reg | apply Wp.condW | apply fin_ret); simp -implicitDefEqProofs (maxSteps := 2000000) (disch := first | exact tt_rfl rfl | omega | (simp only [go_sem] <;> omega) | fail) only [go_sem, h, Int.ofNat_lt, h1, h2, h3, hl] <;> try with_reducible rfl) | apply Wp.block | apply Wp.exitS | apply Wp.retS | apply Wp.exit | apply Wp.ret | apply Wp.skip)
  apply round_next
  ·simp -implicitDefEqProofs (maxSteps := 2000000) (disch := first | exact tt_rfl rfl | omega | (simp only [go_sem] <;> omega) | fail) only [go_sem, norm_eq, Ok.some]; with_reducible rfl
  exact ⟨h, by simp [e], trivial⟩
 ·obtain rfl : i = d.rows.length := by omega
  have hl := hl0 d.rows.length;have hp := hpl d.rows.length;generalize natsV (keysTo d d.rows.length) = L at *;have htk : L.take d.rows.length = L := List.take_of_length_le (by omega)
  repeat (first | apply Wp.seqA | apply Wp.skipS | apply Wp.blockS | ((first | apply Wp.regS | apply Wp.condV | apply Wp.reg | apply Wp.condW | apply fin_ret); simp -implicitDefEqProofs (maxSteps := 2000000) (disch := first | exact tt_rfl rfl | omega | (simp only [go_sem] <;> omega) | fail) only [go_sem, Int.lt_irrefl, hl, hp, htk] <;> try with_reducible rfl) | apply Wp.block | apply Wp.exitS | apply Wp.retS | apply Wp.exit | apply Wp.ret | apply Wp.skip)
def keysE (n : Nat) (l : List Int) : Int := if l.length ≠ n then 4 else if l.all (fun k => decide (-1 ≤ k ∧ k ≤ 27624)) then 0 else 2
theorem checkKeys_ok (n : Nat) (l : List Int) (hl : l.length ≤ 1000000) : lim F 77 [iv (n : Int), .list 1 (l.map fun k => iv k)] = some (iv (keysE n l), []) := by
 have hw := within_ok (-1) 27624 l (by omega)
 have hln : (l.map fun k => iv k).length = l.length := by simp
 unfold keysE;by_cases h1 : l.length = n
 ·rw [if_neg (by simpa using h1)]
  generalize l.map (fun k => iv k) = es at *
  refine lim_by (fn := a77) (k := 2) (res := [.tmp 4]) rfl rfl rfl (by simp -implicitDefEqProofs (maxSteps := 2000000) (disch := first | exact tt_rfl rfl | omega | (simp only [go_sem] <;> omega) | fail) only [go_sem]) ?_
  try delta mvA
  try delta opA
  try delta tA
  simp -implicitDefEqProofs (maxSteps := 2000000) (disch := first | exact tt_rfl rfl | omega | (simp only [go_sem] <;> omega) | fail) only [go_sem]
  cases hb : l.all (fun k => decide (-1 ≤ k ∧ k ≤ 27624))
  all_goals
   rw [hb] at hw;repeat (first | apply Wp.seqA | apply Wp.skipS | apply Wp.blockS | ((first | apply Wp.regS | apply Wp.condV | apply Wp.reg | apply Wp.condW | apply fin_ret); simp -implicitDefEqProofs (maxSteps := 2000000) (disch := first | exact tt_rfl rfl | omega | (simp only [go_sem] <;> omega) | fail) only [go_sem, hw, hln, show ((l.length : Int) = (n : Int)) = True from eq_true (by omega), ite_true, ite_false] <;> try with_reducible rfl) | apply Wp.block | apply Wp.exitS | apply Wp.retS | apply Wp.exit | apply Wp.ret | apply Wp.skip)
 ·rw [if_pos h1]
  generalize l.map (fun k => iv k) = es at *
  refine lim_by (fn := a77) (k := 2) (res := [.tmp 4]) rfl rfl rfl (by simp -implicitDefEqProofs (maxSteps := 2000000) (disch := first | exact tt_rfl rfl | omega | (simp only [go_sem] <;> omega) | fail) only [go_sem]) ?_
  try delta mvA
  try delta opA
  try delta tA
  simp -implicitDefEqProofs (maxSteps := 2000000) (disch := first | exact tt_rfl rfl | omega | (simp only [go_sem] <;> omega) | fail) only [go_sem]
  repeat (first | apply Wp.seqA | apply Wp.skipS | apply Wp.blockS | ((first | apply Wp.regS | apply Wp.condV | apply Wp.reg | apply Wp.condW | apply fin_ret); simp -implicitDefEqProofs (maxSteps := 2000000) (disch := first | exact tt_rfl rfl | omega | (simp only [go_sem] <;> omega) | fail) only [go_sem, hln, show ¬ ((l.length : Int) = (n : Int)) by omega] <;> try with_reducible rfl) | apply Wp.block | apply Wp.exitS | apply Wp.retS | apply Wp.exit | apply Wp.ret | apply Wp.skip)
end Go.Abs
