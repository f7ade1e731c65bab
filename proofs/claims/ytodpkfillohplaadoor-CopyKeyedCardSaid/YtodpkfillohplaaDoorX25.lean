/-
 Several texts: X23, X24, X25.
-/
import Derived.Test.YtodpkfillohplaaDoorX20
import Derived.Test.YtodpkfillohplaaDoorX9
import Derived.Test.YtodpkfillohplaaDoorY8
set_option linter.all false
namespace Go.Abs
set_option maxRecDepth 10000
set_option maxHeartbeats 4000000
def zeroN (n : Nat) : List Nat := List.replicate n 0
theorem lawEmpty_ok (hk : Int) (R : List AV) (hl : R.length ≤ 1000) : lim F 37 [.agg [iv hk, .list 1 R]] = some (.agg [iv hk, .own 1 (natsV (zeroN R.length))], []) := by
 have e : natsV (zeroN R.length) = List.replicate R.length (iv 0) := by unfold natsV zeroN; rw [List.map_replicate]; rfl
 rw [e];refine lim_by (fn := a37) (k := 1) (res := [.cell 2 2 true]) rfl rfl rfl (by simp -implicitDefEqProofs (maxSteps := 2000000) (disch := first | exact tt_rfl rfl | omega | (simp only [go_sem] <;> omega) | fail) only [go_sem]) ?_
 try delta mvA
 try delta opA
 try delta tA
 simp -implicitDefEqProofs (maxSteps := 2000000) (disch := first | exact tt_rfl rfl | omega | (simp only [go_sem] <;> omega) | fail) only [go_sem]
 repeat (first | apply Wp.seqA | apply Wp.skipS | apply Wp.blockS | ((first | apply Wp.regS | apply Wp.condV | apply Wp.reg | apply Wp.condW | apply fin_ret); simp -implicitDefEqProofs (maxSteps := 2000000) (disch := first | exact tt_rfl rfl | omega | (simp only [go_sem] <;> omega) | fail) only [go_sem, show ((R.length : Nat) : Int) ≤ 34359738368 by omega, show (0 : Int) ≤ (R.length : Nat) by omega, List.length_replicate, List.take_replicate, Nat.min_self, Int.toNat_natCast] <;> try with_reducible rfl) | apply Wp.block | apply Wp.exitS | apply Wp.retS | apply Wp.exit | apply Wp.ret | apply Wp.skip)
theorem lawFull_ok (hk : Nat) (R : List AV) (h24 : hk ≤ 24) (hl : R.length ≤ 1000) : lim F 36 [.agg [iv (hk : Int), .list 1 R]] = some (.agg [iv (hk : Int), .own 1 (natsV (fullN hk R.length))], []) := by
 have s1 := w_shl1 hk (by omega)
 have u2 : IntKind.wrap .u64 (hk : Int) = hk := wrap_u64 (by omega) (by omega)
 have p1 : 2 ^ hk ≤ 2 ^ 24 := Nat.pow_le_pow_right (by omega) h24
 have p2 : 0 < 2 ^ hk := Nat.pow_pos (by omega)
 have hs : ∀ i, natsV (fullN hk (i + 1)) = natsV (fullN hk i) ++ [iv (((2 ^ hk : Nat) : Int) - 1)] := fun i => by
  unfold fullN natsV;rw [List.map_replicate, List.map_replicate, List.replicate_succ'];have : ((2 ^ hk - 1 : Nat) : Int) = ((2 ^ hk : Nat) : Int) - 1 := by omega
  rw [this]
 have hll : ∀ i, (natsV (fullN hk i)).length = i := fun i => by simp [fullN]
 have hpl : ∀ i, (natsV (fullN hk i)).all AV.plain = true := fun i => nats_plain _
 generalize 2 ^ hk = pk at *;generalize hn : R.length = n at *;generalize hfu : (fun i => natsV (fullN hk i)) = fu at *
 have hfe : ∀ i, natsV (fullN hk i) = fu i := fun i => by rw [← hfu]
 simp only [hfe] at hs hll hpl ⊢;refine lim_by (fn := a36) (k := 1) (res := [.cell 2 2 true]) rfl rfl rfl (by simp -implicitDefEqProofs (maxSteps := 2000000) (disch := first | exact tt_rfl rfl | omega | (simp only [go_sem] <;> omega) | fail) only [go_sem]) ?_
 try delta mvA
 try delta opA
 try delta tA
 simp -implicitDefEqProofs (maxSteps := 2000000) (disch := first | exact tt_rfl rfl | omega | (simp only [go_sem] <;> omega) | fail) only [go_sem]
 repeat (first | apply Wp.seqA | apply Wp.skipS | apply Wp.blockS | ((first | apply Wp.regS | apply Wp.condV | apply Wp.reg | apply Wp.condW | apply fin_ret); simp -implicitDefEqProofs (maxSteps := 2000000) (disch := first | exact tt_rfl rfl | omega | (simp only [go_sem] <;> omega) | fail) only [go_sem] <;> try with_reducible rfl) | apply Wp.block | apply Wp.exitS | apply Wp.retS | apply Wp.exit | apply Wp.ret | apply Wp.skip)
 apply Wp.loopF n (fun i => ⟨[(1, .ptr 64 0 0), (2, .ptr 128 0 0), (3, .ptr 192 0 0), (4, iv (i : Int))], [(64, .box [iv (hk : Int), .list 1 R]), (128, .box [iv 0, .slice 302049 0 0]), (192, .box [iv (hk : Int), .slice 303073 0 i]), (302049, .arr 1 []), (303073, .arr 1 (fu i))], [], 10000000⟩) (fun _ => True)
 ·simp -implicitDefEqProofs (maxSteps := 2000000) (disch := first | exact tt_rfl rfl | omega | (simp only [go_sem] <;> omega) | fail) only [go_sem, norm_eq, Ok.some]
  rw [← hfu];rfl
 ·trivial
 intro i hi _;have l1 := hll i;by_cases h' : i < n
 ·rw [hs i]
  clear hs hfe hfu;generalize fu i = L at *;repeat (first | apply Wp.seqA | apply Wp.skipS | apply Wp.blockS | ((first | apply Wp.regS | apply Wp.condV | apply Wp.reg | apply Wp.condW | apply fin_ret); simp -implicitDefEqProofs (maxSteps := 2000000) (disch := first | exact tt_rfl rfl | omega | (simp only [go_sem] <;> omega) | fail) only [go_sem, h', Int.ofNat_lt, hn, s1, u2, Int.toNat_natCast, l1] <;> try with_reducible rfl) | apply Wp.block | apply Wp.exitS | apply Wp.retS | apply Wp.exit | apply Wp.ret | apply Wp.skip)
  apply round_next
  ·simp -implicitDefEqProofs (maxSteps := 2000000) (disch := first | exact tt_rfl rfl | omega | (simp only [go_sem] <;> omega) | fail) only [go_sem, norm_eq, Ok.some]; with_reducible rfl
  exact ⟨h', by simp, trivial⟩
 ·obtain rfl : i = n := by omega
  have t1 : (fu i).take i = fu i := List.take_of_length_le (by omega)
  have P1 := hpl i;clear hs hfe hfu;generalize fu i = L at *;repeat (first | apply Wp.seqA | apply Wp.skipS | apply Wp.blockS | ((first | apply Wp.regS | apply Wp.condV | apply Wp.reg | apply Wp.condW | apply fin_ret); simp -implicitDefEqProofs (maxSteps := 2000000) (disch := first | exact tt_rfl rfl | omega | (simp only [go_sem] <;> omega) | fail) only [go_sem, Int.lt_irrefl, hn, l1, t1, P1] <;> try with_reducible rfl) | apply Wp.block | apply Wp.exitS | apply Wp.retS | apply Wp.exit | apply Wp.ret | apply Wp.skip)
end Go.Abs
set_option linter.all false
namespace Go.Abs
set_option maxRecDepth 10000
set_option maxHeartbeats 4000000
def boxC (f : Nat → Nat → Nat) : List AV := (List.range 14400).map fun c => iv ((f (c / 576) (c % 576) : Nat) : Int)
theorem boxC_len (f : Nat → Nat → Nat) : (boxC f).length = 14400 := by simp [boxC]
theorem boxC_get {f : Nat → Nat → Nat} {n s : Nat} (hn : n ≤ 24) (hs : s < 576) : (boxC f)[n * 576 + s]? = some (iv ((f n s : Nat) : Int)) := by
 unfold boxC;rw [List.getElem?_map, List.getElem?_range (by omega)]
 have e1 : (n * 576 + s) / 576 = n := by omega
 have e2 : (n * 576 + s) % 576 = s := by omega
 simp only [Option.map_some, e1, e2]
theorem boxC_congr {f g : Nat → Nat → Nat} (h : ∀ n s, n ≤ 24 → s < 576 → f n s = g n s) : boxC f = boxC g := by
 unfold boxC;refine List.map_congr_left fun c hc => ?_
 rw [List.mem_range] at hc;rw [h _ _ (by omega) (by omega)]
theorem splice_set {α : Type} (l : List α) (o : Nat) (x : α) (h : o < l.length) : l.take o ++ [x] ++ l.drop (o + 1) = l.set o x := by
 rw [List.set_eq_take_append_cons_drop, if_pos h];simp
theorem boxC_set {f g : Nat → Nat → Nat} {n s : Nat} (hn : n ≤ 24) (hs : s < 576) {v : Nat} (hv : g n s = v) (hg : ∀ n' s', n' ≤ 24 → s' < 576 → ¬ (n' = n ∧ s' = s) → g n' s' = f n' s') : (boxC f).take (n * 576 + s) ++ [iv (v : Int)] ++ (boxC f).drop (n * 576 + s + 1) = boxC g := by
 rw [splice_set _ _ _ (by rw [boxC_len]; omega)]
 apply list_ext_get (by simp [boxC_len])
 intro j hj;simp only [List.length_set, boxC_len] at hj;rw [List.getElem?_set, boxC_len];have ej : j / 576 * 576 + j % 576 = j := by omega
 have g1 := boxC_get (f := f) (n := j / 576) (s := j % 576) (by omega) (by omega)
 have g2 := boxC_get (f := g) (n := j / 576) (s := j % 576) (by omega) (by omega)
 rw [ej] at g1 g2;rw [g1, g2];by_cases e : n * 576 + s = j
 ·have h1 : j / 576 = n := by omega
  have h2 : j % 576 = s := by omega
  rw [if_pos e, if_pos (by omega), h1, h2, hv]
 ·rw [if_neg e, hg _ _ (by omega) (by omega) (fun h => e (by omega))]
theorem nmCells_ints (F : Nat → Nat) (r : Ren) : ∀ (l : List AV) (j : Nat), (∀ c ∈ l, ∃ n, c = iv n) → nmCells F j l r = (l, r)
 | [], j, _ => rfl
 | c :: l, j, h => by
  obtain ⟨n, rfl⟩ := h c (by simp)
  unfold nmCells;simp only [nmCell];rw [nmCells_ints F r l (j + 1) fun c hc => h c (by simp [hc])]
theorem boxC_nm (f : Nat → Nat → Nat) (F : Nat → Nat) (j : Nat) (r : Ren) : nmCells F j (boxC f) r = (boxC f, r) :=
 nmCells_ints F r _ _ fun c hc => by
  obtain ⟨q, _, rfl⟩ := List.mem_map.1 hc;exact ⟨_, rfl⟩
theorem boxC_sc (f : Nat → Nat → Nat) : (boxC f).all AV.scalar = true := by
 rw [List.all_eq_true];intro c hc;obtain ⟨q, _, rfl⟩ := List.mem_map.1 hc;rfl
def stF (a : Nat → Nat) (h S i n q n' s' : Nat) : Nat := if n' ≤ h ∧ s' ≤ S then (if n < n' ∨ (n' = n ∧ S < s' + q) then wN a (i + 1) n' s' else wN a i n' s') else 0
theorem stF_zero (a : Nat → Nat) (h S : Nat) : boxC (stF a h S 0 h 0) = iv 1 :: List.replicate 14399 (iv 0) := by
 apply list_ext_get (by rw [boxC_len, List.length_cons, List.length_replicate])
 intro j hj;rw [boxC_len] at hj;have ej : j / 576 * 576 + j % 576 = j := by omega
 have g1 := boxC_get (f := stF a h S 0 h 0) (n := j / 576) (s := j % 576) (by omega) (by omega)
 rw [ej] at g1;rw [g1];have e : stF a h S 0 h 0 (j / 576) (j % 576) = if j = 0 then 1 else 0 := by
  unfold stF;by_cases h0 : j = 0
  ·subst h0
   simp [wN]
  ·rw [if_neg h0]
   split
   ·rename_i h1
    rw [if_neg (by omega)]
    unfold wN;rw [if_neg (by omega)]
   ·rfl
 rw [e];rcases j with _ | j
 ·rfl
 ·rw [if_neg (by omega), List.getElem?_cons_succ, List.getElem?_replicate, if_pos (by omega)]
  rfl
theorem stF_row {a : Nat → Nat} {h S i n q : Nat} (hn : 1 ≤ n) (hq : S < a i + q) : boxC (stF a h S i n q) = boxC (stF a h S i (n - 1) 0) := by
 refine boxC_congr fun n' s' _ _ => ?_
 unfold stF;split
 ·rename_i h1
  by_cases e : n < n' ∨ (n' = n ∧ S < s' + q)
  ·rw [if_pos e, if_pos (by omega)]
  ·rw [if_neg e]
   by_cases e2 : n - 1 < n' ∨ (n' = n - 1 ∧ S < s' + 0)
   ·rw [if_pos e2]
    have : n' = n := by omega
    subst this;have e3 : wN a (i + 1) n' s' = wN a i n' s' + (if 1 ≤ n' ∧ a i ≤ s' then wN a i (n' - 1) (s' - a i) else 0) := rfl
    rw [e3, if_neg (by omega), Nat.add_zero]
   ·rw [if_neg e2]
 ·rfl
theorem stF_next (a : Nat → Nat) (h S i : Nat) : boxC (stF a h S i 0 0) = boxC (stF a h S (i + 1) h 0) := by
 refine boxC_congr fun n' s' _ _ => ?_
 unfold stF;split
 ·rename_i h1
  rw [if_neg (show ¬ (h < n' ∨ (n' = h ∧ S < s' + 0)) by omega)]
  by_cases e : 0 < n'
  ·rw [if_pos (.inl e)]
  ·obtain rfl : n' = 0 := by omega
   rw [if_neg (by omega), wN_none, wN_none]
 ·rfl
theorem choose_in (r h S : Nat) (hr : r < 2 ^ 24) (hh : h ≤ 24) (hS : S < 576) : lim F 90 [iv (r : Int), .agg [iv (h : Int), iv (S : Int)]] = some (iv ((cN r 24 h S : Nat) : Int), []) := by
 obtain ⟨z1, z2⟩ := it_end hr;have hb : bitsN r 24 ≤ 24 := bits_le r;have hne := fun i (hi : i < bitsN r 24) => it_ne hr hi
 have hw := wN_cN hr 24 (Nat.le_refl _);rw [← hw];have hz := stF_zero (fun i => lowN (itR r i)) h S
 have hwl := wN_le (fun i => lowN (itR r i))
 refine lim_by (fn := a90) (k := 2) (res := [.tmp 4]) rfl rfl rfl (by simp -implicitDefEqProofs (maxSteps := 2000000) (disch := first | exact tt_rfl rfl | omega | (simp only [go_sem] <;> omega) | fail) only [go_sem]) ?_
 try delta mvA
 try delta opA
 try delta tA
 simp -implicitDefEqProofs (maxSteps := 2000000) (disch := first | exact tt_rfl rfl | omega | (simp only [go_sem] <;> omega) | fail) only [go_sem]
 have hZa : (List.replicate 14400 (AV.int .i64 0)).all AV.scalar = true := by
  rw [List.all_eq_true];intro x hx;rw [List.eq_of_mem_replicate hx];rfl
 have hZl : (List.replicate 14400 (AV.int .i64 0)).length = 14400 := List.length_replicate;have hZ1 : iv 1 :: (List.replicate 14400 (AV.int .i64 0)).drop 1 = boxC (stF (fun i => lowN (itR r i)) h S 0 h 0) := by
  rw [hz, List.drop_replicate]
 generalize List.replicate 14400 (AV.int IntKind.i64 0) = Z at *;repeat (first | apply Wp.seqA | apply Wp.skipS | apply Wp.blockS | ((first | apply Wp.regS | apply Wp.condV | apply Wp.reg | apply Wp.condW | apply fin_ret); simp -implicitDefEqProofs (maxSteps := 2000000) (disch := first | exact tt_rfl rfl | omega | (simp only [go_sem] <;> omega) | fail) only [go_sem, hZa, hZl, hZ1, show ¬ (h : Int) < 0 by omega, show ¬ (S : Int) < 0 by omega, show ¬ (24 : Int) < h by omega, show ¬ (576 : Int) ≤ S by omega, decide_false] <;> try with_reducible rfl) | apply Wp.block | apply Wp.exitS | apply Wp.retS | apply Wp.exit | apply Wp.ret | apply Wp.skip)
 apply Wp.loopF (bitsN r 24) (fun i => ⟨[(0, iv ((itR r i : Nat) : Int)), (3, .ptr 192 0 0), (5, .ptr 320 0 0)], [(192, .box [iv (h : Int), iv (S : Int)]), (320, .box (boxC (stF (fun i => lowN (itR r i)) h S i h 0)))], [], 10000000⟩) (fun _ => True)
 ·have b1 := boxC_nm (stF (fun i => lowN (itR r i)) h S 0 h 0)
  have b2 := boxC_sc (stF (fun i => lowN (itR r i)) h S 0 h 0)
  generalize boxC (stF (fun i => lowN (itR r i)) h S 0 h 0) = B at *
  simp -implicitDefEqProofs (maxSteps := 2000000) (disch := first | exact tt_rfl rfl | omega | (simp only [go_sem] <;> omega) | fail) only [go_sem, norm_eq, Ok.some, b1, b2]
  rfl
 ·trivial
 intro i hi _;by_cases hlt : i < bitsN r 24
 ·have h0 := hne i hlt
  have h1 := itR_lt hr i;have h2 := TrailingZeros64_ok (itR r i) _ h1 (lowN_is h0);have h2l := (lowN_is h0).lt h1;have h3 := wu_nat (n := itR r i) (by omega)
  have h4 := w_and (itR r i) (itR r i - 1) (by omega) (by omega)
  have h5 : ((itR r i : Nat) : Int) - 1 = ((itR r i - 1 : Nat) : Int) := by omega
  have e1 : itR r (i + 1) = itR r i &&& (itR r i - 1) := rfl;have hi24 : 2 ^ i ≤ 2 ^ 24 := Nat.pow_le_pow_right (by omega) (by omega)
  have hrow := fun n q => @stF_row (fun i => lowN (itR r i)) h S i n q
  have hnext := stF_next (fun i => lowN (itR r i)) h S i
  have hw1 : ∀ n s, wN (fun i => lowN (itR r i)) (i + 1) n s = wN (fun i => lowN (itR r i)) i n s + (if 1 ≤ n ∧ lowN (itR r i) ≤ s then wN (fun i => lowN (itR r i)) i (n - 1) (s - lowN (itR r i)) else 0) := fun _ _ => rfl
  have hwl := hwl i;have hst : ∀ n q n' s', stF (fun i => lowN (itR r i)) h S i n q n' s' = if n' ≤ h ∧ s' ≤ S then (if n < n' ∨ (n' = n ∧ S < s' + q) then wN (fun i => lowN (itR r i)) (i + 1) n' s' else wN (fun i => lowN (itR r i)) i n' s') else 0 := fun _ _ _ _ => rfl
  rw [e1];clear hne hZa hZl hZ1 hz hw;have ha : (fun i => lowN (itR r i)) i = lowN (itR r i) := rfl
  generalize hf : (fun i => lowN (itR r i)) = a at *
  generalize lowN (itR r i) = lo at *;generalize itR r i &&& (itR r i - 1) = y at *;generalize itR r i - 1 = x1 at *;generalize itR r i = x at *;have c1 := boxC_len (stF a h S i h 0);have c2 := boxC_sc (stF a h S i h 0);have c3 := boxC_nm (stF a h S i h 0);repeat (first | apply Wp.seqA | apply Wp.skipS | apply Wp.blockS | ((first | apply Wp.regS | apply Wp.condV | apply Wp.reg | apply Wp.condW | apply fin_ret); simp -implicitDefEqProofs (maxSteps := 2000000) (disch := first | exact tt_rfl rfl | omega | (simp only [go_sem] <;> omega) | fail) only [go_sem, h2, h3, h4, h5, show ¬ (x : Int) = 0 by omega] <;> try with_reducible rfl) | apply Wp.block | apply Wp.exitS | apply Wp.retS | apply Wp.exit | apply Wp.ret | apply Wp.skip)
  apply Wp.loopF h (fun k => ⟨[(0, iv (x : Int)), (3, .ptr 192 0 0), (5, .ptr 320 0 0), (6, iv (lo : Int)), (7, iv ((h - k : Nat) : Int))], [(192, .box [iv (h : Int), iv (S : Int)]), (320, .box (boxC (stF a h S i (h - k) 0)))], [], 10000000⟩) (fun _ => True)
  ·simp -implicitDefEqProofs (maxSteps := 2000000) (disch := first | exact tt_rfl rfl | omega | (simp only [go_sem] <;> omega) | fail) only [go_sem, norm_eq, Ok.some, c2, c3]
   rfl
  ·trivial
  intro k hk _;by_cases hk' : k < h
  ·have hn1 : 1 ≤ h - k := by omega
   have hnh : h - k ≤ h := by omega
   have en : h - (k + 1) = h - k - 1 := by omega
   rw [en];generalize h - k = n at *;have c1 := boxC_len (stF a h S i n 0);have c2 := boxC_sc (stF a h S i n 0);have c3 := boxC_nm (stF a h S i n 0);repeat (first | apply Wp.seqA | apply Wp.skipS | apply Wp.blockS | ((first | apply Wp.regS | apply Wp.condV | apply Wp.reg | apply Wp.condW | apply fin_ret); simp -implicitDefEqProofs (maxSteps := 2000000) (disch := first | exact tt_rfl rfl | omega | (simp only [go_sem] <;> omega) | fail) only [go_sem, show (0 : Int) < n by omega] <;> try with_reducible rfl) | apply Wp.block | apply Wp.exitS | apply Wp.retS | apply Wp.exit | apply Wp.ret | apply Wp.skip)
   apply Wp.loopF (S + 1 - lo) (fun q => ⟨[(0, iv (x : Int)), (3, .ptr 192 0 0), (5, .ptr 320 0 0), (6, iv (lo : Int)), (7, iv (n : Int)), (8, iv ((S : Int) - q))], [(192, .box [iv (h : Int), iv (S : Int)]), (320, .box (boxC (stF a h S i n q)))], [], 10000000⟩) (fun _ => True)
   ·simp -implicitDefEqProofs (maxSteps := 2000000) (disch := first | exact tt_rfl rfl | omega | (simp only [go_sem] <;> omega) | fail) only [go_sem, norm_eq, Ok.some, c2, c3]
    simp
   ·trivial
   intro q hq _;have d1 := boxC_len (stF a h S i n q);have d2 := boxC_sc (stF a h S i n q);have d3 := boxC_nm (stF a h S i n q);by_cases hq' : q < S + 1 - lo
   ·have e2 : (S : Int) - q = ((S - q : Nat) : Int) := by omega
    have hs1 : lo ≤ S - q := by omega
    have hs2 : S - q ≤ S := by omega
    have g1 := boxC_get (f := stF a h S i n q) (n := n) (s := S - q) (by omega) (by omega)
    have g2 := boxC_get (f := stF a h S i n q) (n := n - 1) (s := S - q - lo) (by omega) (by omega)
    have v1 : stF a h S i n q n (S - q) = wN a i n (S - q) := by
     rw [hst, if_pos (by omega), if_neg (by omega)]
    have v2 : stF a h S i n q (n - 1) (S - q - lo) = wN a i (n - 1) (S - q - lo) := by
     rw [hst, if_pos (by omega), if_neg (by omega)]
    have v3 : stF a h S i n (q + 1) n (S - q) = wN a i n (S - q) + wN a i (n - 1) (S - q - lo) := by
     rw [hst, if_pos (by omega), if_pos (by omega), hw1, if_pos (by omega)]
    have g3 := boxC_set (f := stF a h S i n q) (g := stF a h S i n (q + 1)) (n := n) (s := S - q) (by omega) (by omega) v3 (fun n' s' _ _ hne => by
     rw [hst, hst];by_cases hc : n' ≤ h ∧ s' ≤ S
     ·rw [if_pos hc, if_pos hc]
      by_cases hd : n < n' ∨ (n' = n ∧ S < s' + q)
      ·rw [if_pos hd, if_pos (by omega)]
      ·rw [if_neg hd, if_neg (by omega)]
     ·rw [if_neg hc, if_neg hc])
    rw [v1] at g1;rw [v2] at g2;have w1 := hwl n (S - q);have w2 := hwl (n - 1) (S - q - lo);have e3 : (n : Int) - 1 = ((n - 1 : Nat) : Int) := by omega
    have e4 : ((S - q : Nat) : Int) - lo = ((S - q - lo : Nat) : Int) := by omega
    have l1 : n * 576 + (S - q) + 1 ≤ 14400 := by omega
    have l2 : (n - 1) * 576 + (S - q - lo) + 1 ≤ 14400 := by omega
    have t1 : n ≤ 24 := by omega
    have t2 : n - 1 < 25 := by omega
    have t3 : S - q < 576 := by omega
    have t4 : S - q - lo < 576 := by omega
    have e5 : ((S - q : Nat) : Int) - 1 = (S : Int) - ((q + 1 : Nat) : Int) := by omega
    have e6 : (S : Int) - ((q + 1 : Nat) : Int) = ((S - q : Nat) : Int) - 1 := by omega
    have f2 := boxC_sc (stF a h S i n (q + 1));have f3 := boxC_nm (stF a h S i n (q + 1));have eu : (((wN a i n (S - q)) : Nat) : Int) + (((wN a i (n - 1) (S - q - lo)) : Nat) : Int) = ((wN a i n (S - q) + wN a i (n - 1) (S - q - lo) : Nat) : Int) := by omega
    rw [e2];clear hst hw1 hrow hwl c1 c2 c3 d2 d3 v1 v2 v3;generalize wN a i n (S - q) = u1 at *;generalize wN a i (n - 1) (S - q - lo) = u2 at *;generalize boxC (stF a h S i n q) = B1 at *;generalize boxC (stF a h S i n (q + 1)) = B2 at *;generalize S - q - lo = s2 at *;generalize S - q = s1 at *;generalize n - 1 = n1 at *;repeat (first | apply Wp.seqA | apply Wp.skipS | apply Wp.blockS | ((first | apply Wp.regS | apply Wp.condV | apply Wp.reg | apply Wp.condW | apply fin_ret); simp -implicitDefEqProofs (maxSteps := 2000000) (disch := first | exact tt_rfl rfl | omega | (simp only [go_sem] <;> omega) | fail) only [go_sem, show (lo : Int) ≤ (s1 : Nat) by omega, e3, e4, eu, g1, g2, g3, d1, l1, l2, Int.toNat_natCast, Nat.mul_one] <;> try with_reducible rfl) | apply Wp.block | apply Wp.exitS | apply Wp.retS | apply Wp.exit | apply Wp.ret | apply Wp.skip)
    apply round_next
    ·simp -implicitDefEqProofs (maxSteps := 2000000) (disch := first | exact tt_rfl rfl | omega | (simp only [go_sem] <;> omega) | fail) only [go_sem, norm_eq, Ok.some, e5, f2, f3]; with_reducible rfl
    refine ⟨hq', ?_, trivial⟩;rw [e6]
   ·have g4 := hrow n q hn1 (by omega)
    rw [g4];have f1 := boxC_len (stF a h S i (n - 1) 0);have f2 := boxC_sc (stF a h S i (n - 1) 0);have f3 := boxC_nm (stF a h S i (n - 1) 0);have e3 : (n : Int) - 1 = ((n - 1 : Nat) : Int) := by omega
    clear hst hw1 hrow hwl c1 c2 c3 d1 d2 d3 g4;generalize boxC (stF a h S i (n - 1) 0) = B2 at *;generalize n - 1 = n1 at *;repeat (first | apply Wp.seqA | apply Wp.skipS | apply Wp.blockS | ((first | apply Wp.regS | apply Wp.condV | apply Wp.reg | apply Wp.condW | apply fin_ret); simp -implicitDefEqProofs (maxSteps := 2000000) (disch := first | exact tt_rfl rfl | omega | (simp only [go_sem] <;> omega) | fail) only [go_sem, show ¬ (lo : Int) ≤ (S : Int) - q by omega, e3] <;> try with_reducible rfl) | apply Wp.block | apply Wp.exitS | apply Wp.retS | apply Wp.exit | apply Wp.ret | apply Wp.skip)
    apply round_next
    ·simp -implicitDefEqProofs (maxSteps := 2000000) (disch := first | exact tt_rfl rfl | omega | (simp only [go_sem] <;> omega) | fail) only [go_sem, norm_eq, Ok.some, f2, f3]; with_reducible rfl
    exact ⟨hk', rfl, trivial⟩
  ·obtain rfl : k = h := by omega
   rw [Nat.sub_self, hnext];have c2 := boxC_sc (stF a k S (i + 1) k 0);have c3 := boxC_nm (stF a k S (i + 1) k 0);generalize boxC (stF a k S (i + 1) k 0) = B at *;repeat (first | apply Wp.seqA | apply Wp.skipS | apply Wp.blockS | ((first | apply Wp.regS | apply Wp.condV | apply Wp.reg | apply Wp.condW | apply fin_ret); simp -implicitDefEqProofs (maxSteps := 2000000) (disch := first | exact tt_rfl rfl | omega | (simp only [go_sem] <;> omega) | fail) only [go_sem, h4, h5] <;> try with_reducible rfl) | apply Wp.block | apply Wp.exitS | apply Wp.retS | apply Wp.exit | apply Wp.ret | apply Wp.skip)
   apply round_next
   ·simp -implicitDefEqProofs (maxSteps := 2000000) (disch := first | exact tt_rfl rfl | omega | (simp only [go_sem] <;> omega) | fail) only [go_sem, norm_eq, Ok.some, c2, c3]; with_reducible rfl
   exact ⟨hlt, rfl, trivial⟩
 ·obtain rfl : i = bitsN r 24 := by omega
  have g1 := boxC_get (f := stF (fun i => lowN (itR r i)) h S (bitsN r 24) h 0) (n := h) (s := S) hh hS
  have v1 : stF (fun i => lowN (itR r i)) h S (bitsN r 24) h 0 h S = wN (fun i => lowN (itR r i)) (bitsN r 24) h S := by
   unfold stF;rw [if_pos (by omega), if_neg (by omega)]
  rw [v1] at g1;rw [z1];have d1 := boxC_len (stF (fun i => lowN (itR r i)) h S (bitsN r 24) h 0)
  have l1 : h * 576 + S + 1 ≤ 14400 := by omega
  clear hne hwl hZa hZl hZ1 hz hw;generalize wN (fun i => lowN (itR r i)) (bitsN r 24) h S = W at *
  generalize boxC (stF (fun i => lowN (itR r i)) h S (bitsN r 24) h 0) = B at *
  repeat (first | apply Wp.seqA | apply Wp.skipS | apply Wp.blockS | ((first | apply Wp.regS | apply Wp.condV | apply Wp.reg | apply Wp.condW | apply fin_ret); simp -implicitDefEqProofs (maxSteps := 2000000) (disch := first | exact tt_rfl rfl | omega | (simp only [go_sem] <;> omega) | fail) only [go_sem, g1, d1, l1, Int.toNat_natCast, Nat.mul_one] <;> try with_reducible rfl) | apply Wp.block | apply Wp.exitS | apply Wp.retS | apply Wp.exit | apply Wp.ret | apply Wp.skip)
end Go.Abs
set_option linter.all false
namespace Go.Abs
set_option maxRecDepth 10000
set_option maxHeartbeats 4000000
theorem sumB_two (x : Nat) : ∀ p, 2 * sumB x p ≤ p * p
 | 0 => Nat.le_refl _
 | p + 1 => by
  have := sumB_two x p;rw [sumB_succ];have e : (p + 1) * (p + 1) = p * p + 2 * p + 1 := by rw [Nat.add_mul, Nat.mul_add]; omega
  split <;> omega
theorem cN_out (r n s : Nat) (h : 24 < n ∨ 576 ≤ s) : cN r 24 n s = 0 := by
 rw [← sel_count];apply List.length_eq_zero_iff.2;rw [List.filter_eq_nil_iff];intro x _;unfold selX;have h1 := bitsN_le x 24;have h2 := sumB_two x 24;rcases h with h | h
 ·have : decide (bitsN x 24 = n) = false := decide_eq_false (by omega)
  rw [this];simp
 ·have : decide (sumB x 24 = s) = false := decide_eq_false (by omega)
  rw [this];simp
theorem choose_ok (r : Nat) (hr : r < 2 ^ 24) (h s : Int) : lim F 90 [iv (r : Int), .agg [iv h, iv s]] = some (iv ((cZ r 24 h s : Nat) : Int), []) := by
 by_cases h1 : h < 0
 ·have e : cZ r 24 h s = 0 := if_neg (by omega)
  rw [e];refine lim_by (fn := a90) (k := 2) (res := [.tmp 4]) rfl rfl rfl (by simp -implicitDefEqProofs (maxSteps := 2000000) (disch := first | exact tt_rfl rfl | omega | (simp only [go_sem] <;> omega) | fail) only [go_sem]) ?_
  try delta mvA
  try delta opA
  try delta tA
  simp -implicitDefEqProofs (maxSteps := 2000000) (disch := first | exact tt_rfl rfl | omega | (simp only [go_sem] <;> omega) | fail) only [go_sem]
  repeat (first | apply Wp.seqA | apply Wp.skipS | apply Wp.blockS | ((first | apply Wp.regS | apply Wp.condV | apply Wp.reg | apply Wp.condW | apply fin_ret); simp -implicitDefEqProofs (maxSteps := 2000000) (disch := first | exact tt_rfl rfl | omega | (simp only [go_sem] <;> omega) | fail) only [go_sem, h1, decide_true, Int.natCast_zero] <;> try with_reducible rfl) | apply Wp.block | apply Wp.exitS | apply Wp.retS | apply Wp.exit | apply Wp.ret | apply Wp.skip)
 by_cases h2 : s < 0
 ·have e : cZ r 24 h s = 0 := if_neg (by omega)
  rw [e];refine lim_by (fn := a90) (k := 2) (res := [.tmp 4]) rfl rfl rfl (by simp -implicitDefEqProofs (maxSteps := 2000000) (disch := first | exact tt_rfl rfl | omega | (simp only [go_sem] <;> omega) | fail) only [go_sem]) ?_
  try delta mvA
  try delta opA
  try delta tA
  simp -implicitDefEqProofs (maxSteps := 2000000) (disch := first | exact tt_rfl rfl | omega | (simp only [go_sem] <;> omega) | fail) only [go_sem]
  repeat (first | apply Wp.seqA | apply Wp.skipS | apply Wp.blockS | ((first | apply Wp.regS | apply Wp.condV | apply Wp.reg | apply Wp.condW | apply fin_ret); simp -implicitDefEqProofs (maxSteps := 2000000) (disch := first | exact tt_rfl rfl | omega | (simp only [go_sem] <;> omega) | fail) only [go_sem, h1, h2, decide_true, decide_false, Int.natCast_zero] <;> try with_reducible rfl) | apply Wp.block | apply Wp.exitS | apply Wp.retS | apply Wp.exit | apply Wp.ret | apply Wp.skip)
 have e : cZ r 24 h s = cN r 24 h.toNat s.toNat := if_pos (by omega)
 by_cases h3 : 24 < h
 ·rw [e, cN_out _ _ _ (.inl (by omega))]
  refine lim_by (fn := a90) (k := 2) (res := [.tmp 4]) rfl rfl rfl (by simp -implicitDefEqProofs (maxSteps := 2000000) (disch := first | exact tt_rfl rfl | omega | (simp only [go_sem] <;> omega) | fail) only [go_sem]) ?_
  try delta mvA
  try delta opA
  try delta tA
  simp -implicitDefEqProofs (maxSteps := 2000000) (disch := first | exact tt_rfl rfl | omega | (simp only [go_sem] <;> omega) | fail) only [go_sem]
  repeat (first | apply Wp.seqA | apply Wp.skipS | apply Wp.blockS | ((first | apply Wp.regS | apply Wp.condV | apply Wp.reg | apply Wp.condW | apply fin_ret); simp -implicitDefEqProofs (maxSteps := 2000000) (disch := first | exact tt_rfl rfl | omega | (simp only [go_sem] <;> omega) | fail) only [go_sem, h1, h2, h3, decide_true, decide_false, Int.natCast_zero] <;> try with_reducible rfl) | apply Wp.block | apply Wp.exitS | apply Wp.retS | apply Wp.exit | apply Wp.ret | apply Wp.skip)
 by_cases h4 : 576 ≤ s
 ·rw [e, cN_out _ _ _ (.inr (by omega))]
  refine lim_by (fn := a90) (k := 2) (res := [.tmp 4]) rfl rfl rfl (by simp -implicitDefEqProofs (maxSteps := 2000000) (disch := first | exact tt_rfl rfl | omega | (simp only [go_sem] <;> omega) | fail) only [go_sem]) ?_
  try delta mvA
  try delta opA
  try delta tA
  simp -implicitDefEqProofs (maxSteps := 2000000) (disch := first | exact tt_rfl rfl | omega | (simp only [go_sem] <;> omega) | fail) only [go_sem]
  repeat (first | apply Wp.seqA | apply Wp.skipS | apply Wp.blockS | ((first | apply Wp.regS | apply Wp.condV | apply Wp.reg | apply Wp.condW | apply fin_ret); simp -implicitDefEqProofs (maxSteps := 2000000) (disch := first | exact tt_rfl rfl | omega | (simp only [go_sem] <;> omega) | fail) only [go_sem, h1, h2, h3, h4, decide_true, decide_false, Int.natCast_zero] <;> try with_reducible rfl) | apply Wp.block | apply Wp.exitS | apply Wp.retS | apply Wp.exit | apply Wp.ret | apply Wp.skip)
 obtain ⟨a, rfl⟩ := Int.eq_ofNat_of_zero_le (show 0 ≤ h by omega)
 obtain ⟨b, rfl⟩ := Int.eq_ofNat_of_zero_le (show 0 ≤ s by omega)
 rw [e, Int.toNat_natCast, Int.toNat_natCast];exact choose_in r a b hr (by omega) (by omega)
theorem sumB_top {x hk n : Nat} (hx : x < 2 ^ hk) (h : hk ≤ n) : sumB x n = sumB x hk := by
 obtain ⟨d, rfl⟩ := Nat.exists_eq_add_of_le h;induction d with
 | zero => rfl
 | succ d ih =>
  have e : hk + (d + 1) = (hk + d) + 1 := by omega
  rw [e, sumB_succ, Nat.testBit_lt_two_pow (Nat.lt_of_lt_of_le hx (Nat.pow_le_pow_right (by omega) (by omega))), ih (by omega)]
  simp
theorem wanted_ok (t : Bool) (hk k j : Nat) (h24 : hk ≤ 24) (hk2 : k ≤ 27624) (hj : j < 2 ^ hk) : lim F 89 [.agg [iv (hk : Int), .bool t], iv (k : Int), iv (j : Int)] = some (.agg [iv (nL t j hk ((k % 100 : Nat) : Int)), iv (sL t j hk ((k / 100 : Nat) : Int))], []) := by
 have hA := all_ok hk h24;have hp : 0 < 2 ^ hk := Nat.pow_pos (by omega)
 have hp24 : 2 ^ hk ≤ 2 ^ 24 := Nat.pow_le_pow_right (by omega) h24
 have hK := keyOf_ok (2 ^ hk - 1) (by omega)
 have hJ := keyOf_ok j (by omega)
 obtain ⟨f1, f2⟩ := sumB_all (2 ^ hk - 1) hk fun q hq => by rw [Nat.testBit_two_pow_sub_one, decide_eq_true hq]
 rw [bitsN_top (show 2 ^ hk - 1 < 2 ^ hk by omega) h24, sumB_top (show 2 ^ hk - 1 < 2 ^ hk by omega) h24, f1, f2] at hK
 rw [bitsN_top hj h24, sumB_top hj h24] at hJ;have e1 : ((2 ^ hk - 1 : Nat) : Int) = ((2 ^ hk : Nat) : Int) - 1 := by omega
 rw [e1] at hK;have e2 : Int.tmod (k : Int) 100 = ((k % 100 : Nat) : Int) := by rw [Int.tmod_eq_emod_of_nonneg (Int.natCast_nonneg _)]; rfl
 have e3 : Int.tdiv (k : Int) 100 = ((k / 100 : Nat) : Int) := by rw [Int.tdiv_eq_ediv_of_nonneg (Int.natCast_nonneg _)]; rfl
 have b1 := bitsN_le j hk;have b2 := sumB_two j hk;have b3 : hk * hk ≤ 24 * 24 := Nat.mul_le_mul h24 h24;have b4 := sumB_two (2 ^ hk - 1) hk;rw [f1] at b4;have b5 : k % 100 < 100 := Nat.mod_lt _ (by omega)
 have b6 : k / 100 ≤ 276 := by omega
 unfold nL sL;generalize bitsN j hk = bj at *;generalize sumB j hk = sj at *;generalize allS hk = al at *;generalize k % 100 = k1 at *;generalize k / 100 = k2 at *;generalize ((2 ^ hk : Nat) : Int) - 1 = wh at *;cases t
 ·simp only [Bool.false_eq_true, if_false]
  refine lim_by (fn := a89) (k := 3) (res := [.cell 6 2 true]) rfl rfl rfl (by simp -implicitDefEqProofs (maxSteps := 2000000) (disch := first | exact tt_rfl rfl | omega | (simp only [go_sem] <;> omega) | fail) only [go_sem]) ?_
  try delta mvA
  try delta opA
  try delta tA
  simp -implicitDefEqProofs (maxSteps := 2000000) (disch := first | exact tt_rfl rfl | omega | (simp only [go_sem] <;> omega) | fail) only [go_sem]
  repeat (first | apply Wp.seqA | apply Wp.skipS | apply Wp.blockS | ((first | apply Wp.regS | apply Wp.condV | apply Wp.reg | apply Wp.condW | apply fin_ret); simp -implicitDefEqProofs (maxSteps := 2000000) (disch := first | exact tt_rfl rfl | omega | (simp only [go_sem] <;> omega) | fail) only [go_sem, hA, hK, hJ, e2, e3] <;> try with_reducible rfl) | apply Wp.block | apply Wp.exitS | apply Wp.retS | apply Wp.exit | apply Wp.ret | apply Wp.skip)
 ·simp only [if_true]
  refine lim_by (fn := a89) (k := 3) (res := [.cell 6 2 true]) rfl rfl rfl (by simp -implicitDefEqProofs (maxSteps := 2000000) (disch := first | exact tt_rfl rfl | omega | (simp only [go_sem] <;> omega) | fail) only [go_sem]) ?_
  try delta mvA
  try delta opA
  try delta tA
  simp -implicitDefEqProofs (maxSteps := 2000000) (disch := first | exact tt_rfl rfl | omega | (simp only [go_sem] <;> omega) | fail) only [go_sem]
  repeat (first | apply Wp.seqA | apply Wp.skipS | apply Wp.blockS | ((first | apply Wp.regS | apply Wp.condV | apply Wp.reg | apply Wp.condW | apply fin_ret); simp -implicitDefEqProofs (maxSteps := 2000000) (disch := first | exact tt_rfl rfl | omega | (simp only [go_sem] <;> omega) | fail) only [go_sem, hA, hK, hJ, e2, e3] <;> try with_reducible rfl) | apply Wp.block | apply Wp.exitS | apply Wp.retS | apply Wp.exit | apply Wp.ret | apply Wp.skip)
def freeN (hk j : Nat) : Nat := subN (2 ^ hk - 1) j
theorem freeN_lt (hk j : Nat) : freeN hk j < 2 ^ hk := by
 apply subN_lt;have : 0 < 2 ^ hk := Nat.pow_pos (by omega)
 omega
theorem freeN_bit {hk j q : Nat} (h : q < hk) : (freeN hk j).testBit q = !j.testBit q := by
 unfold freeN;rw [subN_bit, Nat.testBit_two_pow_sub_one, decide_eq_true h, Bool.true_and]
def cardC (f m : Nat) (wo : Nat → Nat) (j : Nat) : Nat → Nat
 | 0 => j
 | q + 1 => if f.testBit q = true ∧ wo q < m then cardC f m wo j q ||| 2 ^ q else cardC f m wo j q
def cardS (f : Nat) (wo : Nat → Nat) (j : Nat) : Nat → Nat
 | 0 => j
 | q + 1 => if f.testBit q = true ∧ wo q = 0 then cardS f wo j q ||| 2 ^ q else cardS f wo j q
theorem cardC_lt {f m : Nat} {wo : Nat → Nat} {j hk : Nat} (hj : j < 2 ^ hk) : ∀ q, q ≤ hk → cardC f m wo j q < 2 ^ hk
 | 0, _ => hj
 | q + 1, hq => by
  have h := cardC_lt (f := f) (m := m) (wo := wo) hj q (by omega)
  unfold cardC;split
  ·exact Nat.or_lt_two_pow h (Nat.pow_lt_pow_right (by omega) (by omega))
  ·exact h
theorem cardS_lt {f : Nat} {wo : Nat → Nat} {j hk : Nat} (hj : j < 2 ^ hk) : ∀ q, q ≤ hk → cardS f wo j q < 2 ^ hk
 | 0, _ => hj
 | q + 1, hq => by
  have h := cardS_lt (f := f) (wo := wo) hj q (by omega)
  unfold cardS;split
  ·exact Nat.or_lt_two_pow h (Nat.pow_lt_pow_right (by omega) (by omega))
  ·exact h
def woN (hk j : Nat) (h s : Int) (q : Nat) : Nat := cZ (subN (freeN hk j) (2 ^ q)) 24 h s
theorem and_two (x q : Nat) : x &&& 2 ^ q = (x.testBit q).toNat * 2 ^ q := by
 apply Nat.eq_of_testBit_eq;intro i;rw [Nat.testBit_and, Nat.testBit_two_pow];by_cases h : q = i
 ·subst h
  cases x.testBit q <;> simp
 ·rw [decide_eq_false h, Bool.and_false]
  cases x.testBit q
  ·simp
  ·simp [Nat.testBit_two_pow, h]
theorem card_key (t : Bool) (hk k j : Nat) (h24 : hk ≤ 24) (hk2 : k ≤ 27624) (hj : j < 2 ^ hk) (hm : cZ (freeN hk j) 24 (nL t j hk ((k % 100 : Nat) : Int)) (sL t j hk ((k / 100 : Nat) : Int)) ≤ 100000) (hw : ∀ q, woN hk j (nL t j hk ((k % 100 : Nat) : Int)) (sL t j hk ((k / 100 : Nat) : Int)) q ≤ 100000) : lim F 78 [.agg [iv (hk : Int), .bool t], iv (j : Int), iv (k : Int)] =
  some (.agg [iv ((cardS (freeN hk j) (woN hk j (nL t j hk ((k % 100 : Nat) : Int)) (sL t j hk ((k / 100 : Nat) : Int))) j hk : Nat) : Int), iv ((cardC (freeN hk j) (cZ (freeN hk j) 24 (nL t j hk ((k % 100 : Nat) : Int)) (sL t j hk ((k / 100 : Nat) : Int))) (woN hk j (nL t j hk ((k % 100 : Nat) : Int)) (sL t j hk ((k / 100 : Nat) : Int))) j hk : Nat) : Int), iv ((cZ (freeN hk j) 24 (nL t j hk ((k % 100 : Nat) : Int)) (sL t j hk ((k / 100 : Nat) : Int)) : Nat) : Int)], []) := by
 have hA := all_ok hk h24;have hp : 0 < 2 ^ hk := Nat.pow_pos (by omega)
 have hp24 : 2 ^ hk ≤ 2 ^ 24 := Nat.pow_le_pow_right (by omega) h24
 have hW := wanted_ok t hk k j h24 hk2 hj;have hfl := freeN_lt hk j;have hch := fun r (hr : r < 2 ^ 24) => choose_ok r hr (nL t j hk ((k % 100 : Nat) : Int)) (sL t j hk ((k / 100 : Nat) : Int))
 have hC0 := hch (freeN hk j) (by omega)
 have e0 := w_andN (2 ^ hk - 1) j (by omega)
 rw [subN_eq (by omega)] at e0
 change _ = ((freeN hk j : Nat) : Int) at e0;have e1 : ((2 ^ hk - 1 : Nat) : Int) = ((2 ^ hk : Nat) : Int) - 1 := by omega
 rw [e1] at e0;have hcl := fun q (hq : q ≤ hk) => cardC_lt (f := freeN hk j) (m := cZ (freeN hk j) 24 (nL t j hk ((k % 100 : Nat) : Int)) (sL t j hk ((k / 100 : Nat) : Int))) (wo := woN hk j (nL t j hk ((k % 100 : Nat) : Int)) (sL t j hk ((k / 100 : Nat) : Int))) hj q hq
 have hsl := fun q (hq : q ≤ hk) => cardS_lt (f := freeN hk j) (wo := woN hk j (nL t j hk ((k % 100 : Nat) : Int)) (sL t j hk ((k / 100 : Nat) : Int))) hj q hq
 have hwo : ∀ q, woN hk j (nL t j hk ((k % 100 : Nat) : Int)) (sL t j hk ((k / 100 : Nat) : Int)) q = cZ (subN (freeN hk j) (2 ^ q)) 24 (nL t j hk ((k % 100 : Nat) : Int)) (sL t j hk ((k / 100 : Nat) : Int)) := fun q => rfl
 generalize woN hk j (nL t j hk ((k % 100 : Nat) : Int)) (sL t j hk ((k / 100 : Nat) : Int)) = wo at *;generalize cZ (freeN hk j) 24 (nL t j hk ((k % 100 : Nat) : Int)) (sL t j hk ((k / 100 : Nat) : Int)) = m at *;have hsc : ∀ q, cardC (freeN hk j) m wo j (q + 1) = if (freeN hk j).testBit q = true ∧ wo q < m then cardC (freeN hk j) m wo j q ||| 2 ^ q else cardC (freeN hk j) m wo j q := fun q => rfl
 have hss : ∀ q, cardS (freeN hk j) wo j (q + 1) = if (freeN hk j).testBit q = true ∧ wo q = 0 then cardS (freeN hk j) wo j q ||| 2 ^ q else cardS (freeN hk j) wo j q := fun q => rfl
 have hf24 : freeN hk j < 2 ^ 24 := by omega
 have p24 : (2 : Nat) ^ 24 = 16777216 := rfl;generalize nL t j hk ((k % 100 : Nat) : Int) = wh at *;generalize sL t j hk ((k / 100 : Nat) : Int) = ws at *;generalize ((2 ^ hk : Nat) : Int) - 1 = al at *;generalize hfr : freeN hk j = f at *;refine lim_by (fn := a78) (k := 3) (res := [.cell 6 3 true]) rfl rfl rfl (by simp -implicitDefEqProofs (maxSteps := 2000000) (disch := first | exact tt_rfl rfl | omega | (simp only [go_sem] <;> omega) | fail) only [go_sem]) ?_
 try delta mvA
 try delta opA
 try delta tA
 simp -implicitDefEqProofs (maxSteps := 2000000) (disch := first | exact tt_rfl rfl | omega | (simp only [go_sem] <;> omega) | fail) only [go_sem]
 repeat (first | apply Wp.seqA | apply Wp.skipS | apply Wp.blockS | ((first | apply Wp.regS | apply Wp.condV | apply Wp.reg | apply Wp.condW | apply fin_ret); simp -implicitDefEqProofs (maxSteps := 2000000) (disch := first | exact tt_rfl rfl | omega | (simp only [go_sem] <;> omega) | fail) only [go_sem, hA, e0, hW, hC0, show ¬ (k : Int) = -1 by omega] <;> try with_reducible rfl) | apply Wp.block | apply Wp.exitS | apply Wp.retS | apply Wp.exit | apply Wp.ret | apply Wp.skip)
 apply Wp.loopF hk (fun q => ⟨[(6, .ptr 384 0 0), (7, iv (f : Int)), (8, .ptr 512 0 0), (39, iv (hk : Int)), (40, iv (q : Int))], [(384, .box [iv ((cardS f wo j q : Nat) : Int), iv ((cardC f m wo j q : Nat) : Int), iv (m : Int)]), (512, .box [iv wh, iv ws])], [], 10000000⟩) (fun _ => True)
 ·simp -implicitDefEqProofs (maxSteps := 2000000) (disch := first | exact tt_rfl rfl | omega | (simp only [go_sem] <;> omega) | fail) only [go_sem, norm_eq, Ok.some]
  rfl
 ·trivial
 intro q hq _;by_cases h' : q < hk
 ·have s1 := w_shl1 q (by omega)
  have q1 : 2 ^ q < 2 ^ hk := Nat.pow_lt_pow_right (by omega) h'
  have a1 := w_and f (2 ^ q) (by omega) (by omega)
  rw [and_two] at a1;have a2 := w_andN f (2 ^ q) (by omega)
  rw [subN_eq (by omega)] at a2
  have a3 := hch (subN f (2 ^ q)) (by have := subN_lt (y := 2 ^ q) hf24; exact this)
  rw [← hwo q] at a3;have a4 := hw q;have c1 := hcl q (by omega)
  have c2 := hsl q (by omega)
  have o1 := w_or (cardC f m wo j q) (2 ^ q) (by omega) (by omega)
  have o2 := w_or (cardS f wo j q) (2 ^ q) (by omega) (by omega)
  have d1 := hsc q;have d2 := hss q;have qp : 0 < 2 ^ q := Nat.pow_pos (by omega)
  rw [d1, d2];clear hcl hsl hsc hss hwo hw hch hC0 e0 hA hW;generalize cardC f m wo j q ||| 2 ^ q = c' at *
  generalize cardS f wo j q ||| 2 ^ q = s' at *
  generalize cardC f m wo j q = cc at *;generalize cardS f wo j q = cs at *;generalize subN f (2 ^ q) = fw at *;generalize wo q = w at *;generalize 2 ^ q = pq at *;cases hb : f.testBit q
  ·rw [hb] at a1
   simp only [Bool.toNat_false, Nat.zero_mul] at a1;simp only [Bool.false_eq_true, false_and, if_false];repeat (first | apply Wp.seqA | apply Wp.skipS | apply Wp.blockS | ((first | apply Wp.regS | apply Wp.condV | apply Wp.reg | apply Wp.condW | apply fin_ret); simp -implicitDefEqProofs (maxSteps := 2000000) (disch := first | exact tt_rfl rfl | omega | (simp only [go_sem] <;> omega) | fail) only [go_sem, h', Int.ofNat_lt, s1, a1, Int.toNat_natCast, Int.natCast_zero] <;> try with_reducible rfl) | apply Wp.block | apply Wp.exitS | apply Wp.retS | apply Wp.exit | apply Wp.ret | apply Wp.skip)
   apply round_next
   ·simp -implicitDefEqProofs (maxSteps := 2000000) (disch := first | exact tt_rfl rfl | omega | (simp only [go_sem] <;> omega) | fail) only [go_sem, norm_eq, Ok.some]; with_reducible rfl
   exact ⟨h', by simp, trivial⟩
  ·rw [hb] at a1
   simp only [Bool.toNat_true, Nat.one_mul] at a1;simp only [true_and];have n0 : ¬ (pq : Int) = 0 := by omega
   by_cases w0 : w = 0
   ·rw [w0] at a3 ⊢
    simp only [if_true];by_cases wm : 0 < m
    ·rw [if_pos wm]
     repeat (first | apply Wp.seqA | apply Wp.skipS | apply Wp.blockS | ((first | apply Wp.regS | apply Wp.condV | apply Wp.reg | apply Wp.condW | apply fin_ret); simp -implicitDefEqProofs (maxSteps := 2000000) (disch := first | exact tt_rfl rfl | omega | (simp only [go_sem] <;> omega) | fail) only [go_sem, h', Int.ofNat_lt, s1, a1, a2, a3, o1, o2, n0, wm, Int.natCast_pos, Int.toNat_natCast, Int.natCast_zero] <;> try with_reducible rfl) | apply Wp.block | apply Wp.exitS | apply Wp.retS | apply Wp.exit | apply Wp.ret | apply Wp.skip)
     apply round_next
     ·simp -implicitDefEqProofs (maxSteps := 2000000) (disch := first | exact tt_rfl rfl | omega | (simp only [go_sem] <;> omega) | fail) only [go_sem, norm_eq, Ok.some]; with_reducible rfl
     exact ⟨h', by simp, trivial⟩
    ·rw [if_neg wm]
     repeat (first | apply Wp.seqA | apply Wp.skipS | apply Wp.blockS | ((first | apply Wp.regS | apply Wp.condV | apply Wp.reg | apply Wp.condW | apply fin_ret); simp -implicitDefEqProofs (maxSteps := 2000000) (disch := first | exact tt_rfl rfl | omega | (simp only [go_sem] <;> omega) | fail) only [go_sem, h', Int.ofNat_lt, s1, a1, a2, a3, o1, o2, n0, wm, Int.natCast_pos, Int.toNat_natCast, Int.natCast_zero] <;> try with_reducible rfl) | apply Wp.block | apply Wp.exitS | apply Wp.retS | apply Wp.exit | apply Wp.ret | apply Wp.skip)
     apply round_next
     ·simp -implicitDefEqProofs (maxSteps := 2000000) (disch := first | exact tt_rfl rfl | omega | (simp only [go_sem] <;> omega) | fail) only [go_sem, norm_eq, Ok.some]; with_reducible rfl
     exact ⟨h', by simp, trivial⟩
   ·rw [if_neg w0]
    have n1 : ¬ (w : Int) = 0 := by omega
    by_cases wm : w < m
    ·rw [if_pos wm]
     repeat (first | apply Wp.seqA | apply Wp.skipS | apply Wp.blockS | ((first | apply Wp.regS | apply Wp.condV | apply Wp.reg | apply Wp.condW | apply fin_ret); simp -implicitDefEqProofs (maxSteps := 2000000) (disch := first | exact tt_rfl rfl | omega | (simp only [go_sem] <;> omega) | fail) only [go_sem, h', Int.ofNat_lt, s1, a1, a2, a3, o1, o2, n0, n1, wm, Int.toNat_natCast] <;> try with_reducible rfl) | apply Wp.block | apply Wp.exitS | apply Wp.retS | apply Wp.exit | apply Wp.ret | apply Wp.skip)
     apply round_next
     ·simp -implicitDefEqProofs (maxSteps := 2000000) (disch := first | exact tt_rfl rfl | omega | (simp only [go_sem] <;> omega) | fail) only [go_sem, norm_eq, Ok.some]; with_reducible rfl
     exact ⟨h', by simp, trivial⟩
    ·rw [if_neg wm]
     repeat (first | apply Wp.seqA | apply Wp.skipS | apply Wp.blockS | ((first | apply Wp.regS | apply Wp.condV | apply Wp.reg | apply Wp.condW | apply fin_ret); simp -implicitDefEqProofs (maxSteps := 2000000) (disch := first | exact tt_rfl rfl | omega | (simp only [go_sem] <;> omega) | fail) only [go_sem, h', Int.ofNat_lt, s1, a1, a2, a3, o1, o2, n0, n1, wm, Int.toNat_natCast] <;> try with_reducible rfl) | apply Wp.block | apply Wp.exitS | apply Wp.retS | apply Wp.exit | apply Wp.ret | apply Wp.skip)
     apply round_next
     ·simp -implicitDefEqProofs (maxSteps := 2000000) (disch := first | exact tt_rfl rfl | omega | (simp only [go_sem] <;> omega) | fail) only [go_sem, norm_eq, Ok.some]; with_reducible rfl
     exact ⟨h', by simp, trivial⟩
 ·obtain rfl : q = hk := by omega
  repeat (first | apply Wp.seqA | apply Wp.skipS | apply Wp.blockS | ((first | apply Wp.regS | apply Wp.condV | apply Wp.reg | apply Wp.condW | apply fin_ret); simp -implicitDefEqProofs (maxSteps := 2000000) (disch := first | exact tt_rfl rfl | omega | (simp only [go_sem] <;> omega) | fail) only [go_sem, Int.lt_irrefl] <;> try with_reducible rfl) | apply Wp.block | apply Wp.exitS | apply Wp.retS | apply Wp.exit | apply Wp.ret | apply Wp.skip)
theorem card_blot (t : Bool) (hk j : Nat) (h24 : hk ≤ 24) (hj : j < 2 ^ hk) : lim F 78 [.agg [iv (hk : Int), .bool t], iv (j : Int), iv (-1)] = some (.agg [iv (j : Int), iv ((j ||| freeN hk j : Nat) : Int), iv ((2 ^ bitsN (freeN hk j) 24 : Nat) : Int)], []) := by
 have hA := all_ok hk h24;have hp : 0 < 2 ^ hk := Nat.pow_pos (by omega)
 have hp24 : 2 ^ hk ≤ 2 ^ 24 := Nat.pow_le_pow_right (by omega) h24
 have hfl := freeN_lt hk j;have e0 := w_andN (2 ^ hk - 1) j (by omega)
 rw [subN_eq (by omega)] at e0
 change _ = ((freeN hk j : Nat) : Int) at e0;have e1 : ((2 ^ hk - 1 : Nat) : Int) = ((2 ^ hk : Nat) : Int) - 1 := by omega
 rw [e1] at e0;have o1 := w_or j (freeN hk j) (by omega) (by omega)
 have h3 := wu_nat (n := freeN hk j) (by omega)
 have h2 := OnesCount64_ok (freeN hk j) (by omega)
 have bl := bits_le (freeN hk j);have s1 := w_shl1 (bitsN (freeN hk j) 24) (by omega)
 generalize bitsN (freeN hk j) 24 = bn at *;generalize j ||| freeN hk j = jf at *
 generalize freeN hk j = f at *;generalize ((2 ^ hk : Nat) : Int) - 1 = al at *;refine lim_by (fn := a78) (k := 3) (res := [.cell 6 3 true]) rfl rfl rfl (by simp -implicitDefEqProofs (maxSteps := 2000000) (disch := first | exact tt_rfl rfl | omega | (simp only [go_sem] <;> omega) | fail) only [go_sem]) ?_
 try delta mvA
 try delta opA
 try delta tA
 simp -implicitDefEqProofs (maxSteps := 2000000) (disch := first | exact tt_rfl rfl | omega | (simp only [go_sem] <;> omega) | fail) only [go_sem]
 repeat (first | apply Wp.seqA | apply Wp.skipS | apply Wp.blockS | ((first | apply Wp.regS | apply Wp.condV | apply Wp.reg | apply Wp.condW | apply fin_ret); simp -implicitDefEqProofs (maxSteps := 2000000) (disch := first | exact tt_rfl rfl | omega | (simp only [go_sem] <;> omega) | fail) only [go_sem, hA, e0, o1, h2, h3, s1, Int.toNat_natCast] <;> try with_reducible rfl) | apply Wp.block | apply Wp.exitS | apply Wp.retS | apply Wp.exit | apply Wp.ret | apply Wp.skip)
end Go.Abs
