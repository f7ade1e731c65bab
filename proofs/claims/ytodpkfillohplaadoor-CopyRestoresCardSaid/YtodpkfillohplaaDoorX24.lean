/-
 Chapter 12: in how many ways hooks are chosen. No condition beyond those that each theorem names.
-/
import Derived.Test.YtodpkfillohplaaDoorX23
import Derived.Test.YtodpkfillohplaaDoorY8
set_option linter.all false
namespace Go.Abs
set_option maxRecDepth 10000
set_option maxHeartbeats 4000000

def boxC (f : Nat → Nat → Nat) : List AV := (List.range 14400).map fun c => iv ((f (c / 576) (c % 576) : Nat) : Int)
theorem boxC_len (f : Nat → Nat → Nat) : (boxC f).length = 14400 := by simp [boxC]
theorem boxC_get {f : Nat → Nat → Nat} {n s : Nat} (hn : n ≤ 24) (hs : s < 576) : (boxC f)[n * 576 + s]? = some (iv ((f n s : Nat) : Int)) := by
 unfold boxC
 rw [List.getElem?_map, List.getElem?_range (by omega)]
 have e1 : (n * 576 + s) / 576 = n := by omega
 have e2 : (n * 576 + s) % 576 = s := by omega
 simp only [Option.map_some, e1, e2]
theorem boxC_congr {f g : Nat → Nat → Nat} (h : ∀ n s, n ≤ 24 → s < 576 → f n s = g n s) : boxC f = boxC g := by
 unfold boxC
 refine List.map_congr_left fun c hc => ?_
 rw [List.mem_range] at hc
 rw [h _ _ (by omega) (by omega)]
theorem splice_set {α : Type} (l : List α) (o : Nat) (x : α) (h : o < l.length) : l.take o ++ [x] ++ l.drop (o + 1) = l.set o x := by
 rw [List.set_eq_take_append_cons_drop, if_pos h]
 simp
theorem boxC_set {f g : Nat → Nat → Nat} {n s : Nat} (hn : n ≤ 24) (hs : s < 576) {v : Nat} (hv : g n s = v) (hg : ∀ n' s', n' ≤ 24 → s' < 576 → ¬ (n' = n ∧ s' = s) → g n' s' = f n' s') : (boxC f).take (n * 576 + s) ++ [iv (v : Int)] ++ (boxC f).drop (n * 576 + s + 1) = boxC g := by
 rw [splice_set _ _ _ (by rw [boxC_len]; omega)]
 apply list_ext_get (by simp [boxC_len])
 intro j hj
 simp only [List.length_set, boxC_len] at hj
 rw [List.getElem?_set, boxC_len]
 have ej : j / 576 * 576 + j % 576 = j := by omega
 have g1 := boxC_get (f := f) (n := j / 576) (s := j % 576) (by omega) (by omega)
 have g2 := boxC_get (f := g) (n := j / 576) (s := j % 576) (by omega) (by omega)
 rw [ej] at g1 g2
 rw [g1, g2]
 by_cases e : n * 576 + s = j
 ·have h1 : j / 576 = n := by omega
  have h2 : j % 576 = s := by omega
  rw [if_pos e, if_pos (by omega), h1, h2, hv]
 ·rw [if_neg e, hg _ _ (by omega) (by omega) (fun h => e (by omega))]
theorem nmCells_ints (F : Nat → Nat) (r : Ren) : ∀ (l : List AV) (j : Nat), (∀ c ∈ l, ∃ n, c = iv n) → nmCells F j l r = (l, r)
 | [], j, _ => rfl
 | c :: l, j, h => by
  obtain ⟨n, rfl⟩ := h c (by simp)
  unfold nmCells
  simp only [nmCell]
  rw [nmCells_ints F r l (j + 1) fun c hc => h c (by simp [hc])]
theorem boxC_nm (f : Nat → Nat → Nat) (F : Nat → Nat) (j : Nat) (r : Ren) : nmCells F j (boxC f) r = (boxC f, r) :=
 nmCells_ints F r _ _ fun c hc => by
  obtain ⟨q, _, rfl⟩ := List.mem_map.1 hc
  exact ⟨_, rfl⟩
theorem boxC_sc (f : Nat → Nat → Nat) : (boxC f).all AV.scalar = true := by
 rw [List.all_eq_true]
 intro c hc
 obtain ⟨q, _, rfl⟩ := List.mem_map.1 hc
 rfl
/-- within a round: rows above n, and the sums above S - q in row n, are new -/
def stF (a : Nat → Nat) (h S i n q n' s' : Nat) : Nat := if n' ≤ h ∧ s' ≤ S then (if n < n' ∨ (n' = n ∧ S < s' + q) then wN a (i + 1) n' s' else wN a i n' s') else 0
theorem stF_zero (a : Nat → Nat) (h S : Nat) : boxC (stF a h S 0 h 0) = iv 1 :: List.replicate 14399 (iv 0) := by
 apply list_ext_get (by rw [boxC_len, List.length_cons, List.length_replicate])
 intro j hj
 rw [boxC_len] at hj
 have ej : j / 576 * 576 + j % 576 = j := by omega
 have g1 := boxC_get (f := stF a h S 0 h 0) (n := j / 576) (s := j % 576) (by omega) (by omega)
 rw [ej] at g1
 rw [g1]
 have e : stF a h S 0 h 0 (j / 576) (j % 576) = if j = 0 then 1 else 0 := by
  unfold stF
  by_cases h0 : j = 0
  ·subst h0
   simp [wN]
  ·rw [if_neg h0]
   split
   ·rename_i h1
    rw [if_neg (by omega)]
    unfold wN
    rw [if_neg (by omega)]
   ·rfl
 rw [e]
 rcases j with _ | j
 ·rfl
 ·rw [if_neg (by omega), List.getElem?_cons_succ, List.getElem?_replicate, if_pos (by omega)]
  rfl
theorem stF_row {a : Nat → Nat} {h S i n q : Nat} (hn : 1 ≤ n) (hq : S < a i + q) : boxC (stF a h S i n q) = boxC (stF a h S i (n - 1) 0) := by
 refine boxC_congr fun n' s' _ _ => ?_
 unfold stF
 split
 ·rename_i h1
  by_cases e : n < n' ∨ (n' = n ∧ S < s' + q)
  ·rw [if_pos e, if_pos (by omega)]
  ·rw [if_neg e]
   by_cases e2 : n - 1 < n' ∨ (n' = n - 1 ∧ S < s' + 0)
   ·rw [if_pos e2]
    have : n' = n := by omega
    subst this
    have e3 : wN a (i + 1) n' s' = wN a i n' s' + (if 1 ≤ n' ∧ a i ≤ s' then wN a i (n' - 1) (s' - a i) else 0) := rfl
    rw [e3, if_neg (by omega), Nat.add_zero]
   ·rw [if_neg e2]
 ·rfl
theorem stF_next (a : Nat → Nat) (h S i : Nat) : boxC (stF a h S i 0 0) = boxC (stF a h S (i + 1) h 0) := by
 refine boxC_congr fun n' s' _ _ => ?_
 unfold stF
 split
 ·rename_i h1
  rw [if_neg (show ¬ (h < n' ∨ (n' = h ∧ S < s' + 0)) by omega)]
  by_cases e : 0 < n'
  ·rw [if_pos (.inl e)]
  ·obtain rfl : n' = 0 := by omega
   rw [if_neg (by omega), wN_none, wN_none]
 ·rfl
theorem choose_in (r h S : Nat) (hr : r < 2 ^ 24) (hh : h ≤ 24) (hS : S < 576) : lim F 90 [iv (r : Int), .agg [iv (h : Int), iv (S : Int)]] = some (iv ((cN r 24 h S : Nat) : Int), []) := by
 obtain ⟨z1, z2⟩ := it_end hr
 have hb : bitsN r 24 ≤ 24 := bits_le r
 have hne := fun i (hi : i < bitsN r 24) => it_ne hr hi
 have hw := wN_cN hr 24 (Nat.le_refl _)
 rw [← hw]
 have hz := stF_zero (fun i => lowN (itR r i)) h S
 have hwl := wN_le (fun i => lowN (itR r i))
 refine lim_by (fn := a90) (k := 2) (res := [.tmp 4]) rfl rfl rfl (by simp -implicitDefEqProofs (maxSteps := 2000000) (disch := first | exact tt_rfl rfl | omega | (simp only [go_sem] <;> omega) | fail) only [go_sem]) ?_
 try delta mvA
 try delta opA
 try delta tA
 simp -implicitDefEqProofs (maxSteps := 2000000) (disch := first | exact tt_rfl rfl | omega | (simp only [go_sem] <;> omega) | fail) only [go_sem]
 have hZa : (List.replicate 14400 (AV.int .i64 0)).all AV.scalar = true := by
  rw [List.all_eq_true]
  intro x hx
  rw [List.eq_of_mem_replicate hx]
  rfl
 have hZl : (List.replicate 14400 (AV.int .i64 0)).length = 14400 := List.length_replicate
 have hZ1 : iv 1 :: (List.replicate 14400 (AV.int .i64 0)).drop 1 = boxC (stF (fun i => lowN (itR r i)) h S 0 h 0) := by
  rw [hz, List.drop_replicate]
 generalize List.replicate 14400 (AV.int IntKind.i64 0) = Z at *
 repeat (first | apply Wp.seqA | apply Wp.skipS | apply Wp.blockS | ((first | apply Wp.regS | apply Wp.condV | apply Wp.reg | apply Wp.condW | apply fin_ret); simp -implicitDefEqProofs (maxSteps := 2000000) (disch := first | exact tt_rfl rfl | omega | (simp only [go_sem] <;> omega) | fail) only [go_sem, hZa, hZl, hZ1, show ¬ (h : Int) < 0 by omega, show ¬ (S : Int) < 0 by omega, show ¬ (24 : Int) < h by omega, show ¬ (576 : Int) ≤ S by omega, decide_false] <;> try with_reducible rfl) | apply Wp.block | apply Wp.exitS | apply Wp.retS | apply Wp.exit | apply Wp.ret | apply Wp.skip)
 apply Wp.loopF (bitsN r 24) (fun i => ⟨[(0, iv ((itR r i : Nat) : Int)), (3, .ptr 192 0 0), (5, .ptr 320 0 0)], [(192, .box [iv (h : Int), iv (S : Int)]), (320, .box (boxC (stF (fun i => lowN (itR r i)) h S i h 0)))], [], 10000000⟩) (fun _ => True)
 ·have b1 := boxC_nm (stF (fun i => lowN (itR r i)) h S 0 h 0)
  have b2 := boxC_sc (stF (fun i => lowN (itR r i)) h S 0 h 0)
  generalize boxC (stF (fun i => lowN (itR r i)) h S 0 h 0) = B at *
  simp -implicitDefEqProofs (maxSteps := 2000000) (disch := first | exact tt_rfl rfl | omega | (simp only [go_sem] <;> omega) | fail) only [go_sem, norm_eq, Ok.some, b1, b2]
  rfl
 ·trivial
 intro i hi _
 by_cases hlt : i < bitsN r 24
 ·have h0 := hne i hlt
  have h1 := itR_lt hr i
  have h2 := TrailingZeros64_ok (itR r i) _ h1 (lowN_is h0)
  have h2l := (lowN_is h0).lt h1
  have h3 := wu_nat (n := itR r i) (by omega)
  have h4 := w_and (itR r i) (itR r i - 1) (by omega) (by omega)
  have h5 : ((itR r i : Nat) : Int) - 1 = ((itR r i - 1 : Nat) : Int) := by omega
  have e1 : itR r (i + 1) = itR r i &&& (itR r i - 1) := rfl
  have hi24 : 2 ^ i ≤ 2 ^ 24 := Nat.pow_le_pow_right (by omega) (by omega)
  have hrow := fun n q => @stF_row (fun i => lowN (itR r i)) h S i n q
  have hnext := stF_next (fun i => lowN (itR r i)) h S i
  have hw1 : ∀ n s, wN (fun i => lowN (itR r i)) (i + 1) n s = wN (fun i => lowN (itR r i)) i n s + (if 1 ≤ n ∧ lowN (itR r i) ≤ s then wN (fun i => lowN (itR r i)) i (n - 1) (s - lowN (itR r i)) else 0) := fun _ _ => rfl
  have hwl := hwl i
  have hst : ∀ n q n' s', stF (fun i => lowN (itR r i)) h S i n q n' s' = if n' ≤ h ∧ s' ≤ S then (if n < n' ∨ (n' = n ∧ S < s' + q) then wN (fun i => lowN (itR r i)) (i + 1) n' s' else wN (fun i => lowN (itR r i)) i n' s') else 0 := fun _ _ _ _ => rfl
  rw [e1]
  clear hne hZa hZl hZ1 hz hw
  have ha : (fun i => lowN (itR r i)) i = lowN (itR r i) := rfl
  generalize hf : (fun i => lowN (itR r i)) = a at *
  generalize lowN (itR r i) = lo at *
  generalize itR r i &&& (itR r i - 1) = y at *
  generalize itR r i - 1 = x1 at *
  generalize itR r i = x at *
  have c1 := boxC_len (stF a h S i h 0)
  have c2 := boxC_sc (stF a h S i h 0)
  have c3 := boxC_nm (stF a h S i h 0)
  repeat (first | apply Wp.seqA | apply Wp.skipS | apply Wp.blockS | ((first | apply Wp.regS | apply Wp.condV | apply Wp.reg | apply Wp.condW | apply fin_ret); simp -implicitDefEqProofs (maxSteps := 2000000) (disch := first | exact tt_rfl rfl | omega | (simp only [go_sem] <;> omega) | fail) only [go_sem, h2, h3, h4, h5, show ¬ (x : Int) = 0 by omega] <;> try with_reducible rfl) | apply Wp.block | apply Wp.exitS | apply Wp.retS | apply Wp.exit | apply Wp.ret | apply Wp.skip)
  apply Wp.loopF h (fun k => ⟨[(0, iv (x : Int)), (3, .ptr 192 0 0), (5, .ptr 320 0 0), (6, iv (lo : Int)), (7, iv ((h - k : Nat) : Int))], [(192, .box [iv (h : Int), iv (S : Int)]), (320, .box (boxC (stF a h S i (h - k) 0)))], [], 10000000⟩) (fun _ => True)
  ·simp -implicitDefEqProofs (maxSteps := 2000000) (disch := first | exact tt_rfl rfl | omega | (simp only [go_sem] <;> omega) | fail) only [go_sem, norm_eq, Ok.some, c2, c3]
   rfl
  ·trivial
  intro k hk _
  by_cases hk' : k < h
  ·have hn1 : 1 ≤ h - k := by omega
   have hnh : h - k ≤ h := by omega
   have en : h - (k + 1) = h - k - 1 := by omega
   rw [en]
   generalize h - k = n at *
   have c1 := boxC_len (stF a h S i n 0)
   have c2 := boxC_sc (stF a h S i n 0)
   have c3 := boxC_nm (stF a h S i n 0)
   repeat (first | apply Wp.seqA | apply Wp.skipS | apply Wp.blockS | ((first | apply Wp.regS | apply Wp.condV | apply Wp.reg | apply Wp.condW | apply fin_ret); simp -implicitDefEqProofs (maxSteps := 2000000) (disch := first | exact tt_rfl rfl | omega | (simp only [go_sem] <;> omega) | fail) only [go_sem, show (0 : Int) < n by omega] <;> try with_reducible rfl) | apply Wp.block | apply Wp.exitS | apply Wp.retS | apply Wp.exit | apply Wp.ret | apply Wp.skip)
   apply Wp.loopF (S + 1 - lo) (fun q => ⟨[(0, iv (x : Int)), (3, .ptr 192 0 0), (5, .ptr 320 0 0), (6, iv (lo : Int)), (7, iv (n : Int)), (8, iv ((S : Int) - q))], [(192, .box [iv (h : Int), iv (S : Int)]), (320, .box (boxC (stF a h S i n q)))], [], 10000000⟩) (fun _ => True)
   ·simp -implicitDefEqProofs (maxSteps := 2000000) (disch := first | exact tt_rfl rfl | omega | (simp only [go_sem] <;> omega) | fail) only [go_sem, norm_eq, Ok.some, c2, c3]
    simp
   ·trivial
   intro q hq _
   have d1 := boxC_len (stF a h S i n q)
   have d2 := boxC_sc (stF a h S i n q)
   have d3 := boxC_nm (stF a h S i n q)
   by_cases hq' : q < S + 1 - lo
   ·have e2 : (S : Int) - q = ((S - q : Nat) : Int) := by omega
    have hs1 : lo ≤ S - q := by omega
    have hs2 : S - q ≤ S := by omega
    have g1 := boxC_get (f := stF a h S i n q) (n := n) (s := S - q) (by omega) (by omega)
    have g2 := boxC_get (f := stF a h S i n q) (n := n - 1) (s := S - q - lo) (by omega) (by omega)
    have v1 : stF a h S i n q n (S - q) = wN a i n (S - q) := by
     rw [hst, if_pos (by omega), if_neg (by omega)]
    have v2 : stF a h S i n q (n - 1) (S - q - lo) = wN a i (n - 1) (S - q - lo) := by
     rw [hst, if_pos (by omega), if_neg (by omega)]
    have v3 : stF a h S i n (q + 1) n (S - q) = wN a i n (S - q) + wN a i (n - 1) (S - q - lo) := by
     rw [hst, if_pos (by omega), if_pos (by omega), hw1, if_pos (by omega)]
    have g3 := boxC_set (f := stF a h S i n q) (g := stF a h S i n (q + 1)) (n := n) (s := S - q) (by omega) (by omega) v3 (fun n' s' _ _ hne => by
     rw [hst, hst]
     by_cases hc : n' ≤ h ∧ s' ≤ S
     ·rw [if_pos hc, if_pos hc]
      by_cases hd : n < n' ∨ (n' = n ∧ S < s' + q)
      ·rw [if_pos hd, if_pos (by omega)]
      ·rw [if_neg hd, if_neg (by omega)]
     ·rw [if_neg hc, if_neg hc])
    rw [v1] at g1
    rw [v2] at g2
    have w1 := hwl n (S - q)
    have w2 := hwl (n - 1) (S - q - lo)
    have e3 : (n : Int) - 1 = ((n - 1 : Nat) : Int) := by omega
    have e4 : ((S - q : Nat) : Int) - lo = ((S - q - lo : Nat) : Int) := by omega
    have l1 : n * 576 + (S - q) + 1 ≤ 14400 := by omega
    have l2 : (n - 1) * 576 + (S - q - lo) + 1 ≤ 14400 := by omega
    have t1 : n ≤ 24 := by omega
    have t2 : n - 1 < 25 := by omega
    have t3 : S - q < 576 := by omega
    have t4 : S - q - lo < 576 := by omega
    have e5 : ((S - q : Nat) : Int) - 1 = (S : Int) - ((q + 1 : Nat) : Int) := by omega
    have e6 : (S : Int) - ((q + 1 : Nat) : Int) = ((S - q : Nat) : Int) - 1 := by omega
    have f2 := boxC_sc (stF a h S i n (q + 1))
    have f3 := boxC_nm (stF a h S i n (q + 1))
    have eu : (((wN a i n (S - q)) : Nat) : Int) + (((wN a i (n - 1) (S - q - lo)) : Nat) : Int) = ((wN a i n (S - q) + wN a i (n - 1) (S - q - lo) : Nat) : Int) := by omega
    rw [e2]
    clear hst hw1 hrow hwl c1 c2 c3 d2 d3 v1 v2 v3
    generalize wN a i n (S - q) = u1 at *
    generalize wN a i (n - 1) (S - q - lo) = u2 at *
    generalize boxC (stF a h S i n q) = B1 at *
    generalize boxC (stF a h S i n (q + 1)) = B2 at *
    generalize S - q - lo = s2 at *
    generalize S - q = s1 at *
    generalize n - 1 = n1 at *
    repeat (first | apply Wp.seqA | apply Wp.skipS | apply Wp.blockS | ((first | apply Wp.regS | apply Wp.condV | apply Wp.reg | apply Wp.condW | apply fin_ret); simp -implicitDefEqProofs (maxSteps := 2000000) (disch := first | exact tt_rfl rfl | omega | (simp only [go_sem] <;> omega) | fail) only [go_sem, show (lo : Int) ≤ (s1 : Nat) by omega, e3, e4, eu, g1, g2, g3, d1, l1, l2, Int.toNat_natCast, Nat.mul_one] <;> try with_reducible rfl) | apply Wp.block | apply Wp.exitS | apply Wp.retS | apply Wp.exit | apply Wp.ret | apply Wp.skip)
    apply round_next
    ·simp -implicitDefEqProofs (maxSteps := 2000000) (disch := first | exact tt_rfl rfl | omega | (simp only [go_sem] <;> omega) | fail) only [go_sem, norm_eq, Ok.some, e5, f2, f3]; with_reducible rfl
    refine ⟨hq', ?_, trivial⟩
    rw [e6]
   ·have g4 := hrow n q hn1 (by omega)
    rw [g4]
    have f1 := boxC_len (stF a h S i (n - 1) 0)
    have f2 := boxC_sc (stF a h S i (n - 1) 0)
    have f3 := boxC_nm (stF a h S i (n - 1) 0)
    have e3 : (n : Int) - 1 = ((n - 1 : Nat) : Int) := by omega
    clear hst hw1 hrow hwl c1 c2 c3 d1 d2 d3 g4
    generalize boxC (stF a h S i (n - 1) 0) = B2 at *
    generalize n - 1 = n1 at *
    repeat (first | apply Wp.seqA | apply Wp.skipS | apply Wp.blockS | ((first | apply Wp.regS | apply Wp.condV | apply Wp.reg | apply Wp.condW | apply fin_ret); simp -implicitDefEqProofs (maxSteps := 2000000) (disch := first | exact tt_rfl rfl | omega | (simp only [go_sem] <;> omega) | fail) only [go_sem, show ¬ (lo : Int) ≤ (S : Int) - q by omega, e3] <;> try with_reducible rfl) | apply Wp.block | apply Wp.exitS | apply Wp.retS | apply Wp.exit | apply Wp.ret | apply Wp.skip)
    apply round_next
    ·simp -implicitDefEqProofs (maxSteps := 2000000) (disch := first | exact tt_rfl rfl | omega | (simp only [go_sem] <;> omega) | fail) only [go_sem, norm_eq, Ok.some, f2, f3]; with_reducible rfl
    exact ⟨hk', rfl, trivial⟩
  ·obtain rfl : k = h := by omega
   rw [Nat.sub_self, hnext]
   have c2 := boxC_sc (stF a k S (i + 1) k 0)
   have c3 := boxC_nm (stF a k S (i + 1) k 0)
   generalize boxC (stF a k S (i + 1) k 0) = B at *
   repeat (first | apply Wp.seqA | apply Wp.skipS | apply Wp.blockS | ((first | apply Wp.regS | apply Wp.condV | apply Wp.reg | apply Wp.condW | apply fin_ret); simp -implicitDefEqProofs (maxSteps := 2000000) (disch := first | exact tt_rfl rfl | omega | (simp only [go_sem] <;> omega) | fail) only [go_sem, h4, h5] <;> try with_reducible rfl) | apply Wp.block | apply Wp.exitS | apply Wp.retS | apply Wp.exit | apply Wp.ret | apply Wp.skip)
   apply round_next
   ·simp -implicitDefEqProofs (maxSteps := 2000000) (disch := first | exact tt_rfl rfl | omega | (simp only [go_sem] <;> omega) | fail) only [go_sem, norm_eq, Ok.some, c2, c3]; with_reducible rfl
   exact ⟨hlt, rfl, trivial⟩
 ·obtain rfl : i = bitsN r 24 := by omega
  have g1 := boxC_get (f := stF (fun i => lowN (itR r i)) h S (bitsN r 24) h 0) (n := h) (s := S) hh hS
  have v1 : stF (fun i => lowN (itR r i)) h S (bitsN r 24) h 0 h S = wN (fun i => lowN (itR r i)) (bitsN r 24) h S := by
   unfold stF
   rw [if_pos (by omega), if_neg (by omega)]
  rw [v1] at g1
  rw [z1]
  have d1 := boxC_len (stF (fun i => lowN (itR r i)) h S (bitsN r 24) h 0)
  have l1 : h * 576 + S + 1 ≤ 14400 := by omega
  clear hne hwl hZa hZl hZ1 hz hw
  generalize wN (fun i => lowN (itR r i)) (bitsN r 24) h S = W at *
  generalize boxC (stF (fun i => lowN (itR r i)) h S (bitsN r 24) h 0) = B at *
  repeat (first | apply Wp.seqA | apply Wp.skipS | apply Wp.blockS | ((first | apply Wp.regS | apply Wp.condV | apply Wp.reg | apply Wp.condW | apply fin_ret); simp -implicitDefEqProofs (maxSteps := 2000000) (disch := first | exact tt_rfl rfl | omega | (simp only [go_sem] <;> omega) | fail) only [go_sem, g1, d1, l1, Int.toNat_natCast, Nat.mul_one] <;> try with_reducible rfl) | apply Wp.block | apply Wp.exitS | apply Wp.retS | apply Wp.exit | apply Wp.ret | apply Wp.skip)
end Go.Abs
