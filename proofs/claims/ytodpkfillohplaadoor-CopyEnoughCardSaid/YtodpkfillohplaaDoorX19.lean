/-
 Several texts: X15, X16, X17, X18, X19.
-/
import Derived.Test.YtodpkfillohplaaDoorX11
import Derived.Test.YtodpkfillohplaaDoorY5
set_option linter.all false
namespace Go.Abs
set_option maxRecDepth 10000
set_option maxHeartbeats 4000000
def moreTo (s : List (List Nat)) (j : List Nat) (n : Nat) (most : Int) : Nat → Int
 | 0 => most
 | k + 1 => min (moreTo s j n most k) (most - (lostV j (s.getD k []) n : Nat))
theorem moreTo_le (s : List (List Nat)) (j : List Nat) (n : Nat) (most : Int) : ∀ k, moreTo s j n most k ≤ most ∧ most - 24 * n ≤ moreTo s j n most k
 | 0 => ⟨Int.le_refl _, by unfold moreTo; omega⟩
 | k + 1 => by
  have h := moreTo_le s j n most k;have h2 := lostV_le j (s.getD k []) n;unfold moreTo;omega
theorem isMost_ok (most : Int) : lim F 86 [iv most] = some (.bool (decide (0 ≤ most ∧ most ≤ 1000)), []) := by
 have h := within_ok 0 1000 [most] (by simp)
 simp only [List.map_cons, List.map_nil, List.all_cons, List.all_nil, Bool.and_true] at h;refine lim_by (fn := a86) (k := 1) (res := [.tmp 2]) rfl rfl rfl (by simp -implicitDefEqProofs (maxSteps := 2000000) (disch := first | exact tt_rfl rfl | omega | (simp only [go_sem] <;> omega) | fail) only [go_sem]) ?_
 try delta mvA
 try delta opA
 try delta tA
 simp -implicitDefEqProofs (maxSteps := 2000000) (disch := first | exact tt_rfl rfl | omega | (simp only [go_sem] <;> omega) | fail) only [go_sem]
 repeat (first | apply Wp.seqA | apply Wp.skipS | apply Wp.blockS | ((first | apply Wp.regS | apply Wp.condV | apply Wp.reg | apply Wp.condW | apply fin_ret); simp -implicitDefEqProofs (maxSteps := 2000000) (disch := first | exact tt_rfl rfl | omega | (simp only [go_sem] <;> omega) | fail) only [go_sem, h] <;> try with_reducible rfl) | apply Wp.block | apply Wp.exitS | apply Wp.retS | apply Wp.exit | apply Wp.ret | apply Wp.skip)
theorem room_loop {l : List DesN} {hk n : Nat} (h : SetsOk l hk n) (t : Bool) (most : Int) (h0 : 0 ≤ most) (h1 : most ≤ 1000) : lim F 69 [iv (wayOf t), .list 2 (l.map setV), iv most] = some (if moreTo (setsN t hk l) (joinN (setsN t hk l) n) n most l.length < 0 then .tuple [openV t hk (setsN t hk l), .own 1 [], iv 0, iv 9] else .tuple [openV t hk (setsN t hk l), .own 1 (natsV (joinN (setsN t hk l) n)), iv (moreTo (setsN t hk l) (joinN (setsN t hk l) n) n most l.length), iv 0], []) := by
 obtain ⟨⟨k1, k2⟩, k3, k4⟩ := h.k1;have hl10 := h.l10;have hO := open_ok h t;have hrow := setsN_row (t := t) h;have hr24 : ∀ r ∈ setsN t hk l, r.length = n ∧ ∀ x ∈ r, x < 2 ^ 24 := fun r hr => ⟨(hrow r hr).1, fun x hx => up24 ((hrow r hr).2 x hx) k2⟩
 have hJ := join_ok (setsN t hk l) n (by simp; exact h.l1) (by simp; omega) (by omega) hr24
 have hjl : ∀ x ∈ joinN (setsN t hk l) n, x < 2 ^ 24 := fun r hr => by
  obtain ⟨q, hq, rfl⟩ := List.mem_map.1 hr;exact joinAt_lt hr24 (List.mem_range.1 hq)
 have hsl : (setsN t hk l).length = l.length := by simp
 generalize setsN t hk l = s at *;generalize hjn : joinN s n = j at *;have hjlen : j.length = n := by rw [← hjn]; simp
 have hsg : ∀ k, k < l.length → (s.getD k []).length = n ∧ ∀ x ∈ s.getD k [], x < 2 ^ 24 := fun k hk' => by
  rw [List.getD_eq_getElem?_getD, List.getElem?_eq_getElem (by omega)]
  exact hr24 _ (List.getElem_mem _)
 have hL0 : ∀ i, i < l.length → lim F 65 [.list 1 (natsV j), .list 1 (natsV (s.getD i []))] = some (.tuple [iv ((lostV j (s.getD i []) n : Nat) : Int), .bool (subB j (s.getD i []) n)], []) := fun i hi =>
  lost_ok j (s.getD i []) n hjlen (hsg i hi).1 (by omega) hjl (hsg i hi).2
 have hg : ∀ k, k < l.length → (s.map listV)[k]? = some (.list 1 (natsV (s.getD k []))) := fun k hk' => sets_get (by omega)
 have n1 : (s.map listV).length = l.length := by simp [hsl]
 have n2 : (natsV j).length = n := by simp [hjlen]
 have t2 : (natsV j).take n = natsV j := List.take_of_length_le (by omega)
 have P2 := nats_plain j;have tS : (s.map listV).take l.length = s.map listV := List.take_of_length_le (by omega)
 have hms : ∀ k, moreTo s j n most (k + 1) = min (moreTo s j n most k) (most - (lostV j (s.getD k []) n : Nat)) := fun k => rfl
 have hm0 : moreTo s j n most 0 = most := rfl;have hml := moreTo_le s j n most;have hlv := fun k => lostV_le j (s.getD k []) n
 have hM : lim F 86 [iv most] = some (.bool true, []) := by
  rw [isMost_ok most, decide_eq_true ⟨h0, h1⟩]
 unfold openV at hO ⊢;generalize l.map setV = es at *;generalize hsm : s.map listV = sr at *;generalize hjv : natsV j = jr at *;refine lim_by (fn := a69) (k := 3) (res := [.cell 6 3 true, .tmp 7, .tmp 8, .tmp 9]) rfl rfl rfl (by simp -implicitDefEqProofs (maxSteps := 2000000) (disch := first | exact tt_rfl rfl | omega | (simp only [go_sem] <;> omega) | fail) only [go_sem]) ?_
 try delta mvA
 try delta opA
 try delta tA
 simp -implicitDefEqProofs (maxSteps := 2000000) (disch := first | exact tt_rfl rfl | omega | (simp only [go_sem] <;> omega) | fail) only [go_sem]
 repeat (first | apply Wp.seqA | apply Wp.skipS | apply Wp.blockS | ((first | apply Wp.regS | apply Wp.condV | apply Wp.reg | apply Wp.condW | apply fin_ret); simp -implicitDefEqProofs (maxSteps := 2000000) (disch := first | exact tt_rfl rfl | omega | (simp only [go_sem] <;> omega) | fail) only [go_sem, hO, hJ, hM, n1, n2, t2, P2, tS, ite_self] <;> try with_reducible rfl) | apply Wp.block | apply Wp.exitS | apply Wp.retS | apply Wp.exit | apply Wp.ret | apply Wp.skip)
 apply Wp.loopF l.length (fun k => ⟨[(2, iv most), (6, .ptr 384 0 0), (7, .slice 448 0 n), (8, iv (moreTo s j n most k)), (33, .slice 2112 0 l.length), (34, iv (l.length : Int)), (35, iv (k : Int))], [(384, .box [iv (hk : Int), .bool t, .slice 2112 0 l.length]), (448, .arr 1 jr), (2112, .arr 1 sr)], [], 10000000⟩) (fun _ => True)
 ·simp -implicitDefEqProofs (maxSteps := 2000000) (disch := first | exact tt_rfl rfl | omega | (simp only [go_sem] <;> omega) | fail) only [go_sem, norm_eq, Ok.some]
  rfl
 ·trivial
 intro k hk' _;by_cases h' : k < l.length
 ·have a1 := hg k h'
  have a2 := hL0 k h';have a3 := hms k;have a4 := hml k;have a5 := hlv k;have a6 : 24 * n ≤ 24 * 60 := by omega
  rw [a3];clear hO hJ hM hg hL0 hms hml hlv hsg;generalize moreTo s j n most k = mk at *;generalize lostV j (s.getD k []) n = lv at *;generalize natsV (s.getD k []) = rk at *;repeat (first | apply Wp.seqA | apply Wp.skipS | apply Wp.blockS | ((first | apply Wp.regS | apply Wp.condV | apply Wp.reg | apply Wp.condW | apply fin_ret); simp -implicitDefEqProofs (maxSteps := 2000000) (disch := first | exact tt_rfl rfl | omega | (simp only [go_sem] <;> omega) | fail) only [go_sem, h', Int.ofNat_lt, a1, a2, n1, n2, t2, P2] <;> try with_reducible rfl) | apply Wp.block | apply Wp.exitS | apply Wp.retS | apply Wp.exit | apply Wp.ret | apply Wp.skip)
  apply round_next
  ·simp -implicitDefEqProofs (maxSteps := 2000000) (disch := first | exact tt_rfl rfl | omega | (simp only [go_sem] <;> omega) | fail) only [go_sem, norm_eq, Ok.some]; with_reducible rfl
  exact ⟨h', by simp, trivial⟩
 ·obtain rfl : k = l.length := by omega
  by_cases hneg : moreTo s j n most l.length < 0
  ·rw [if_pos hneg]
   repeat (first | apply Wp.seqA | apply Wp.skipS | apply Wp.blockS | ((first | apply Wp.regS | apply Wp.condV | apply Wp.reg | apply Wp.condW | apply fin_ret); simp -implicitDefEqProofs (maxSteps := 2000000) (disch := first | exact tt_rfl rfl | omega | (simp only [go_sem] <;> omega) | fail) only [go_sem, Int.lt_irrefl, hneg, n1, n2, t2, P2, tS] <;> try with_reducible rfl) | apply Wp.block | apply Wp.exitS | apply Wp.retS | apply Wp.exit | apply Wp.ret | apply Wp.skip)
  ·rw [if_neg hneg]
   repeat (first | apply Wp.seqA | apply Wp.skipS | apply Wp.blockS | ((first | apply Wp.regS | apply Wp.condV | apply Wp.reg | apply Wp.condW | apply fin_ret); simp -implicitDefEqProofs (maxSteps := 2000000) (disch := first | exact tt_rfl rfl | omega | (simp only [go_sem] <;> omega) | fail) only [go_sem, Int.lt_irrefl, hneg, n1, n2, t2, P2, tS] <;> try with_reducible rfl) | apply Wp.block | apply Wp.exitS | apply Wp.retS | apply Wp.exit | apply Wp.ret | apply Wp.skip)
end Go.Abs
set_option linter.all false
namespace Go.Abs
set_option maxRecDepth 10000
set_option maxHeartbeats 4000000
theorem Mul64_one (k : Nat) (hk : k ≤ 60) : lim F 97 [.int .u64 1, .int .u64 (k : Int)] = some (.tuple [.int .u64 0, .int .u64 (k : Int)], []) := by
 refine lim_by (fn := a97) (k := 2) (res := [.tmp 4, .tmp 5]) rfl rfl rfl (by simp -implicitDefEqProofs (maxSteps := 2000000) (disch := first | exact tt_rfl rfl | omega | (simp only [go_sem] <;> omega) | fail) only [go_sem]) ?_
 try delta mvA
 try delta opA
 try delta tA
 simp -implicitDefEqProofs (maxSteps := 2000000) (disch := first | exact tt_rfl rfl | omega | (simp only [go_sem] <;> omega) | fail) only [go_sem]
 repeat (first | apply Wp.seqA | apply Wp.skipS | apply Wp.blockS | ((first | apply Wp.regS | apply Wp.condV | apply Wp.reg | apply Wp.condW | apply fin_ret); simp -implicitDefEqProofs (maxSteps := 2000000) (disch := first | exact tt_rfl rfl | omega | (simp only [go_sem] <;> omega) | fail) only [go_sem] <;> try with_reducible rfl) | apply Wp.block | apply Wp.exitS | apply Wp.retS | apply Wp.exit | apply Wp.ret | apply Wp.skip)
 simp only [Option.some.injEq, Prod.mk.injEq, AV.tuple.injEq, List.cons.injEq, AV.int.injEq, true_and, and_true]
 replace hk : k < 61 := by omega
 revert k;decide +kernel
theorem Mul_one (k : Nat) (hk : k ≤ 60) : lim F 94 [.int .u64 1, .int .u64 (k : Int)] = some (.tuple [.int .u64 0, .int .u64 (k : Int)], []) := by
 have h := Mul64_one k hk;refine lim_by (fn := a94) (k := 2) (res := [.tmp 4, .tmp 5]) rfl rfl rfl (by simp -implicitDefEqProofs (maxSteps := 2000000) (disch := first | exact tt_rfl rfl | omega | (simp only [go_sem] <;> omega) | fail) only [go_sem]) ?_
 try delta mvA
 try delta opA
 try delta tA
 simp -implicitDefEqProofs (maxSteps := 2000000) (disch := first | exact tt_rfl rfl | omega | (simp only [go_sem] <;> omega) | fail) only [go_sem]
 repeat (first | apply Wp.seqA | apply Wp.skipS | apply Wp.blockS | ((first | apply Wp.regS | apply Wp.condV | apply Wp.reg | apply Wp.condW | apply fin_ret); simp -implicitDefEqProofs (maxSteps := 2000000) (disch := first | exact tt_rfl rfl | omega | (simp only [go_sem] <;> omega) | fail) only [go_sem, h] <;> try with_reducible rfl) | apply Wp.block | apply Wp.exitS | apply Wp.retS | apply Wp.exit | apply Wp.ret | apply Wp.skip)
theorem rep_row (m k : Nat) (h1 : m ≤ k) (x y : AV) : List.take m (List.replicate m x ++ List.replicate (k - m) y) ++ List.take (min m (k - m)) (List.take ((m : Int) - 0).toNat (List.replicate m x ++ List.replicate (k - m) y)) ++ List.drop (m + min m (k - m)) (List.replicate m x ++ List.replicate (k - m) y) = List.replicate (m + min m (k - m)) x ++ List.replicate (k - (m + min m (k - m))) y := by
 have e : ((m : Int) - 0).toNat = m := by omega
 rw [e, List.take_left' (by simp), List.drop_append, List.take_replicate, List.drop_replicate, List.drop_replicate]
 rw [show min (min m (k - m)) m = min m (k - m) by omega, show m - (m + min m (k - m)) = 0 by omega, List.replicate_zero, List.nil_append, List.length_replicate, List.replicate_append_replicate]
 congr 2
 omega
theorem Repeat_one (a k : Nat) (h1 : 1 ≤ k) (hk : k ≤ 60) : lim F 87 [.list 1 [iv (a : Int)], iv (k : Int)] = some (.own 1 (List.replicate k (iv (a : Int))), []) := by
 have h := Mul_one k hk;have u1 : IntKind.wrap .u64 (k : Int) = k := wrap_u64 (by omega) (by omega)
 have u2 : IntKind.wrap .u64 ((1 : Nat) : Int) = 1 := wrap_u64 (by omega) (by omega)
 have u3 : IntKind.wrap .i64 (k : Int) = k := wrap_id (by omega) (by omega)
 refine lim_by (fn := a87) (k := 2) (res := [.tmp 4]) rfl rfl rfl (by simp -implicitDefEqProofs (maxSteps := 2000000) (disch := first | exact tt_rfl rfl | omega | (simp only [go_sem] <;> omega) | fail) only [go_sem]) ?_
 try delta mvA
 try delta opA
 try delta tA
 simp -implicitDefEqProofs (maxSteps := 2000000) (disch := first | exact tt_rfl rfl | omega | (simp only [go_sem] <;> omega) | fail) only [go_sem]
 have m1 : min 1 k = 1 := by omega
 have hrow : List.take 1 [iv (a : Int)] ++ List.drop 1 (List.replicate k (AV.int .i64 0)) = List.replicate 1 (iv (a : Int)) ++ List.replicate (k - 1) (AV.int .i64 0) := by
  rw [List.drop_replicate]; rfl
 repeat (first | apply Wp.seqA | apply Wp.skipS | apply Wp.blockS | ((first | apply Wp.regS | apply Wp.condV | apply Wp.reg | apply Wp.condW | apply fin_ret); simp -implicitDefEqProofs (maxSteps := 2000000) (disch := first | exact tt_rfl rfl | omega | (simp only [go_sem] <;> omega) | fail) only [go_sem, h, u1, u2, u3, show ¬ (9223372036854775807 : Int) < (k : Int) by omega, m1, hrow] <;> try with_reducible rfl) | apply Wp.block | apply Wp.exitS | apply Wp.retS | apply Wp.exit | apply Wp.ret | apply Wp.skip)
 apply Wp.loopM (fun d fr => ∃ m : Nat, 1 ≤ m ∧ m ≤ k ∧ d = k - m ∧ fr = ⟨[(7, .slice 448 0 k), (8, iv (m : Int))], [(448, .arr 1 (List.replicate m (iv (a : Int)) ++ List.replicate (k - m) (AV.int .i64 0)))], [], 10000000⟩)
 ·simp -implicitDefEqProofs (maxSteps := 2000000) (disch := first | exact tt_rfl rfl | omega | (simp only [go_sem] <;> omega) | fail) only [go_sem, norm_eq, Ok.some]
  exact ⟨k - 1, 1, by omega, h1, rfl, by rw [List.drop_replicate]; rfl⟩
 rintro d fr ⟨m, hm1, hm2, rfl, rfl⟩;by_cases hm : m < k
 ·have e1 : (List.replicate m (iv (a : Int)) ++ List.replicate (k - m) (AV.int .i64 0)).length = k := by simp; omega
  have c1 : min (min ((m : Int) - 0).toNat k) ((k : Int) - m).toNat = min m (k - m) := by omega
  repeat (first | apply Wp.seqA | apply Wp.skipS | apply Wp.blockS | ((first | apply Wp.regS | apply Wp.condV | apply Wp.reg | apply Wp.condW | apply fin_ret); simp -implicitDefEqProofs (maxSteps := 2000000) (disch := first | exact tt_rfl rfl | omega | (simp only [go_sem] <;> omega) | fail) only [go_sem, e1, hm, Int.ofNat_lt, c1] <;> try with_reducible rfl) | apply Wp.block | apply Wp.exitS | apply Wp.retS | apply Wp.exit | apply Wp.ret | apply Wp.skip)
  apply block_norm;apply round_next
  ·simp -implicitDefEqProofs (maxSteps := 2000000) (disch := first | exact tt_rfl rfl | omega | (simp only [go_sem] <;> omega) | fail) only [go_sem, norm_eq, Ok.some]; with_reducible rfl
  refine ⟨k - (m + min m (k - m)), by omega, m + min m (k - m), by omega, by omega, rfl, ?_⟩
  rw [rep_row m k hm2, show ((m + min m (k - m) : Nat) : Int) = (m : Int) + ((min m (k - m) : Nat) : Int) by omega]
 ·obtain rfl : m = k := by omega
  repeat (first | apply Wp.seqA | apply Wp.skipS | apply Wp.blockS | ((first | apply Wp.regS | apply Wp.condV | apply Wp.reg | apply Wp.condW | apply fin_ret); simp -implicitDefEqProofs (maxSteps := 2000000) (disch := first | exact tt_rfl rfl | omega | (simp only [go_sem] <;> omega) | fail) only [go_sem, Int.lt_irrefl] <;> try with_reducible rfl) | apply Wp.block | apply Wp.exitS | apply Wp.retS | apply Wp.exit | apply Wp.ret | apply Wp.skip)
  simp
end Go.Abs
set_option linter.all false
namespace Go.Abs
set_option maxRecDepth 10000
set_option maxHeartbeats 4000000
def fullN (hk n : Nat) : List Nat := List.replicate n (2 ^ hk - 1)
theorem full_ok (hk n : Nat) (t : Bool) (h24 : hk ≤ 24) (h1 : 1 ≤ n) (hn : n ≤ 60) : lim F 70 [.agg [iv (hk : Int), .bool t], iv (n : Int)] = some (.own 1 (natsV (fullN hk n)), []) := by
 have hR := Repeat_one (2 ^ hk - 1) n h1 hn;have e : natsV (fullN hk n) = List.replicate n (iv ((2 ^ hk - 1 : Nat) : Int)) := by unfold natsV fullN; rw [List.map_replicate]
 have e1 : ((2 ^ hk - 1 : Nat) : Int) = ((2 ^ hk : Nat) : Int) - 1 := by
  have : 0 < 2 ^ hk := Nat.pow_pos (by omega)
  omega
 rw [e1] at hR e;rw [e];have hA := all_ok hk;refine lim_by (fn := a70) (k := 2) (res := [.tmp 4]) rfl rfl rfl (by simp -implicitDefEqProofs (maxSteps := 2000000) (disch := first | exact tt_rfl rfl | omega | (simp only [go_sem] <;> omega) | fail) only [go_sem]) ?_
 try delta mvA
 try delta opA
 try delta tA
 simp -implicitDefEqProofs (maxSteps := 2000000) (disch := first | exact tt_rfl rfl | omega | (simp only [go_sem] <;> omega) | fail) only [go_sem]
 repeat (first | apply Wp.seqA | apply Wp.skipS | apply Wp.blockS | ((first | apply Wp.regS | apply Wp.condV | apply Wp.reg | apply Wp.condW | apply fin_ret); simp -implicitDefEqProofs (maxSteps := 2000000) (disch := first | exact tt_rfl rfl | omega | (simp only [go_sem] <;> omega) | fail) only [go_sem, hA, hR] <;> try with_reducible rfl) | apply Wp.block | apply Wp.exitS | apply Wp.retS | apply Wp.exit | apply Wp.ret | apply Wp.skip)
theorem fullN_len (hk n : Nat) : (fullN hk n).length = n := by simp [fullN]
theorem fullN_at (hk n i : Nat) (h : i < n) : (fullN hk n).getD i 0 = 2 ^ hk - 1 := by simp [fullN, h]
theorem fullN_lt (hk n : Nat) : ∀ x ∈ fullN hk n, x < 2 ^ hk := fun x hx => by
 have := List.eq_of_mem_replicate hx;have : 0 < 2 ^ hk := Nat.pow_pos (by omega)
 omega
def gapsL (hk n : Nat) (j : List Nat) : Nat := lostN (fullN hk n) j n
theorem gaps_ok (hk n : Nat) (t : Bool) (j : List Nat) (h24 : hk ≤ 24) (h1 : 1 ≤ n) (hn : n ≤ 60) (hj : j.length = n) (hlt : ∀ x ∈ j, x < 2 ^ hk) : lim F 72 [.agg [iv (hk : Int), .bool t], .list 1 (natsV j)] = some (iv ((gapsL hk n j : Nat) : Int), []) := by
 have hF := full_ok hk n t h24 h1 hn;have hL := lost_ok (fullN hk n) j n (fullN_len hk n) hj (by omega) (fun x hx => up24 (fullN_lt hk n x hx) h24) (fun x hx => up24 (hlt x hx) h24)
 have hs : subB (fullN hk n) j n = true := by
  unfold subB;refine List.all_eq_true.2 fun i hi => decide_eq_true ?_
  rw [List.mem_range] at hi;rw [subN_zero];intro q hq;unfold atR at hq ⊢;rw [fullN_at hk n i hi, Nat.testBit_two_pow_sub_one];refine decide_eq_true ?_;apply Classical.byContradiction;intro hc;have hlt' : j.getD i 0 < 2 ^ hk := by
   rw [rows_get (by omega)]
   exact hlt _ (List.getElem_mem _)
  rw [Nat.testBit_lt_two_pow (Nat.lt_of_lt_of_le hlt' (Nat.pow_le_pow_right (by omega) (by omega)))] at hq
  cases hq
 rw [hs] at hL;simp only [if_true] at hL;have n1 : (natsV j).length = n := by simp [hj]
 have n2 : (natsV (fullN hk n)).length = n := by simp [fullN_len]
 have t2 : (natsV (fullN hk n)).take n = natsV (fullN hk n) := List.take_of_length_le (by omega)
 change lim F _ _ = some (.tuple [iv ((gapsL hk n j : Nat) : Int), _], []) at hL;unfold listV at hL;have P2 := nats_plain (fullN hk n);generalize gapsL hk n j = g at *;generalize natsV (fullN hk n) = fr at *;generalize natsV j = jr at *;refine lim_by (fn := a72) (k := 2) (res := [.tmp 4]) rfl rfl rfl (by simp -implicitDefEqProofs (maxSteps := 2000000) (disch := first | exact tt_rfl rfl | omega | (simp only [go_sem] <;> omega) | fail) only [go_sem]) ?_
 try delta mvA
 try delta opA
 try delta tA
 simp -implicitDefEqProofs (maxSteps := 2000000) (disch := first | exact tt_rfl rfl | omega | (simp only [go_sem] <;> omega) | fail) only [go_sem]
 repeat (first | apply Wp.seqA | apply Wp.skipS | apply Wp.blockS | ((first | apply Wp.regS | apply Wp.condV | apply Wp.reg | apply Wp.condW | apply fin_ret); simp -implicitDefEqProofs (maxSteps := 2000000) (disch := first | exact tt_rfl rfl | omega | (simp only [go_sem] <;> omega) | fail) only [go_sem, hF, hL, n1, n2, t2, P2] <;> try with_reducible rfl) | apply Wp.block | apply Wp.exitS | apply Wp.retS | apply Wp.exit | apply Wp.ret | apply Wp.skip)
theorem gapsL_le (hk n : Nat) (j : List Nat) : gapsL hk n j ≤ 24 * n := lostT_le _ _ n
end Go.Abs
set_option linter.all false
namespace Go.Abs
set_option maxRecDepth 10000
set_option maxHeartbeats 4000000
def wl (p k m : Nat) : List AV := (List.range (m + 1)).map fun j => iv (((if k < j then wayT (p + 1) j else wayT p j : Nat)) : Int)
theorem wl_len (p k m : Nat) : (wl p k m).length = m + 1 := by simp [wl]
theorem wl_get {p k m j : Nat} (h : j ≤ m) : (wl p k m)[j]? = some (iv (((if k < j then wayT (p + 1) j else wayT p j : Nat)) : Int)) := by
 unfold wl;rw [List.getElem?_map, List.getElem?_range (by omega)]
 rfl
theorem list_ext_get {l l' : List AV} (h : l.length = l'.length) (hg : ∀ j, j < l.length → l[j]? = l'[j]?) : l = l' := by
 apply List.ext_getElem? ;intro j;by_cases hj : j < l.length
 ·exact hg j hj
 ·rw [List.getElem?_eq_none (by omega), List.getElem?_eq_none (by omega)]
theorem wl_set {p k m : Nat} (h1 : 1 ≤ k) (h : k ≤ m) : (wl p k m).set k (iv ((wayT (p + 1) k : Nat) : Int)) = wl p (k - 1) m := by
 apply list_ext_get (by simp [wl_len])
 intro j hj;simp only [List.length_set, wl_len] at hj;rw [List.getElem?_set, wl_len, wl_get (by omega), wl_get (by omega)]
 by_cases e : k = j
 ·subst e
  rw [if_pos rfl, if_pos (by omega), if_pos (by omega)]
 ·rw [if_neg e]
  by_cases h2 : k < j
  ·rw [if_pos h2, if_pos (by omega)]
  ·rw [if_neg h2, if_neg (by omega)]
theorem wl_next (p m : Nat) : wl p 0 m = wl (p + 1) m m := by
 apply list_ext_get (by simp [wl_len])
 intro j hj;rw [wl_len] at hj;rw [wl_get (by omega), wl_get (by omega), if_neg (show ¬ m < j by omega)]
 by_cases h : 0 < j
 ·rw [if_pos h]
 ·obtain rfl : j = 0 := by omega
  rw [if_neg h, wayT_zero, wayT_zero]
theorem wl_zero (m : Nat) : iv 1 :: List.replicate m (iv 0) = wl 0 m m := by
 apply list_ext_get (by simp [wl_len])
 intro j hj;simp at hj;rw [wl_get (by omega), if_neg (show ¬ m < j by omega)]
 rcases j with _ | j
 ·rfl
 ·rw [List.getElem?_cons_succ, List.getElem?_replicate, if_pos (by omega)]
  rfl
theorem min_cap (a b : Nat) : min (1000000000001 : Int) ((a : Int) + (b : Int)) = ((min capK (a + b) : Nat) : Int) := by
 unfold capK;omega
theorem Count_ok {l : List DesN} {hk n : Nat} (h : SetsOk l hk n) (t : Bool) (most : Int) (m : Nat) (h0 : 0 ≤ most) (h1 : most ≤ 1000) (hm : moreTo (setsN t hk l) (joinN (setsN t hk l) n) n most l.length = m) (hm1 : m ≤ 1000) : lim F 32 [iv (wayOf t), .list 2 (l.map setV), iv most] = some (if sumW (gapsL hk n (joinN (setsN t hk l) n)) (m + 1) = capK then .tuple [iv 0, iv 8] else .tuple [iv ((sumW (gapsL hk n (joinN (setsN t hk l) n)) (m + 1) : Nat) : Int), iv 0], []) := by
 obtain ⟨⟨k1, k2⟩, k3, k4⟩ := h.k1;have hrow := setsN_row (t := t) h;have hjl : ∀ x ∈ joinN (setsN t hk l) n, x < 2 ^ hk := fun r hr => by
  obtain ⟨q, hq, rfl⟩ := List.mem_map.1 hr;exact joinAt_lt hrow (List.mem_range.1 hq)
 have hR := room_loop h t most h0 h1;rw [hm, if_neg (by omega)] at hR
 have hG := gaps_ok hk n t (joinN (setsN t hk l) n) k2 k3 k4 (by simp) hjl
 have hg := gapsL_le hk n (joinN (setsN t hk l) n);have n2 : (natsV (joinN (setsN t hk l) n)).length = n := by simp
 have t2 : (natsV (joinN (setsN t hk l) n)).take n = natsV (joinN (setsN t hk l) n) := List.take_of_length_le (by omega)
 have P2 := nats_plain (joinN (setsN t hk l) n);have hsl : ((setsN t hk l).map listV).length = l.length := by simp
 have tS : ((setsN t hk l).map listV).take l.length = (setsN t hk l).map listV := List.take_of_length_le (by omega)
 generalize gapsL hk n (joinN (setsN t hk l) n) = g at *;generalize natsV (joinN (setsN t hk l) n) = jr at *;unfold openV at hR;generalize (setsN t hk l).map listV = sr at *;generalize l.map setV = es at *;have z1 := wl_zero m;have hgk : g ≤ 24 * 60 := by omega
 refine lim_by (fn := a32) (k := 3) (res := [.tmp 6, .tmp 7]) rfl rfl rfl (by simp -implicitDefEqProofs (maxSteps := 2000000) (disch := first | exact tt_rfl rfl | omega | (simp only [go_sem] <;> omega) | fail) only [go_sem]) ?_
 try delta mvA
 try delta opA
 try delta tA
 simp -implicitDefEqProofs (maxSteps := 2000000) (disch := first | exact tt_rfl rfl | omega | (simp only [go_sem] <;> omega) | fail) only [go_sem]
 repeat (first | apply Wp.seqA | apply Wp.skipS | apply Wp.blockS | ((first | apply Wp.regS | apply Wp.condV | apply Wp.reg | apply Wp.condW | apply fin_ret); simp -implicitDefEqProofs (maxSteps := 2000000) (disch := first | exact tt_rfl rfl | omega | (simp only [go_sem] <;> omega) | fail) only [go_sem, hR, hG, n2, t2, P2, hsl, tS, z1] <;> try with_reducible rfl) | apply Wp.block | apply Wp.exitS | apply Wp.retS | apply Wp.exit | apply Wp.ret | apply Wp.skip)
 apply Wp.loopF g (fun i => ⟨[(10, iv (m : Int)), (12, .slice 768 0 (1 + m)), (35, iv (g : Int)), (36, iv (i : Int))], [(768, .arr 1 (wl i m m))], [], 10000000⟩) (fun _ => True)
 ·simp -implicitDefEqProofs (maxSteps := 2000000) (disch := first | exact tt_rfl rfl | omega | (simp only [go_sem] <;> omega) | fail) only [go_sem, norm_eq, Ok.some]
  rfl
 ·trivial
 intro i hi _;by_cases h' : i < g
 ·clear hR hG n2 t2 P2 hsl tS z1 hrow hjl
  repeat (first | apply Wp.seqA | apply Wp.skipS | apply Wp.blockS | ((first | apply Wp.regS | apply Wp.condV | apply Wp.reg | apply Wp.condW | apply fin_ret); simp -implicitDefEqProofs (maxSteps := 2000000) (disch := first | exact tt_rfl rfl | omega | (simp only [go_sem] <;> omega) | fail) only [go_sem, h', Int.ofNat_lt] <;> try with_reducible rfl) | apply Wp.block | apply Wp.exitS | apply Wp.retS | apply Wp.exit | apply Wp.ret | apply Wp.skip)
  apply Wp.loopF m (fun q => ⟨[(10, iv (m : Int)), (12, .slice 768 0 (1 + m)), (13, iv ((m : Int) - q)), (35, iv (g : Int)), (36, iv (i : Int))], [(768, .arr 1 (wl i (m - q) m))], [], 10000000⟩) (fun _ => True)
  ·simp -implicitDefEqProofs (maxSteps := 2000000) (disch := first | exact tt_rfl rfl | omega | (simp only [go_sem] <;> omega) | fail) only [go_sem, norm_eq, Ok.some]
   simp
  ·trivial
  intro q hq _;by_cases hq' : q < m
  ·have e1 : (m : Int) - q = ((m - q : Nat) : Int) := by omega
   have a1 := wl_get (p := i) (k := m - q) (show m - q ≤ m by omega)
   have a2 := wl_get (p := i) (k := m - q) (show m - q - 1 ≤ m by omega)
   have a3 := wl_set (p := i) (show 1 ≤ m - q by omega) (show m - q ≤ m by omega)
   rw [if_neg (by omega)] at a1 a2
   have a4 := min_cap (wayT i (m - q)) (wayT i (m - q - 1));have a5 : min capK (wayT i (m - q) + wayT i (m - q - 1)) = wayT (i + 1) (m - q) := by
    obtain ⟨k, hk⟩ : ∃ k, m - q = k + 1 := ⟨m - q - 1, by omega⟩
    rw [hk]; rfl
   rw [a5] at a4;have b1 := wayT_le i (m - q);have b2 := wayT_le i (m - q - 1);have b3 : capK = 1000000000001 := rfl;have e2 : ((m - q : Nat) : Int) - 1 = ((m - q - 1 : Nat) : Int) := by omega
   have e3 : m - (q + 1) = m - q - 1 := by omega
   have c1 : 0 < m - q := by omega
   have c2 : m - q ≤ m := by omega
   have n1 := wl_len i (m - q) m;rw [e1];generalize hkk : m - q = k at *;generalize wayT i k = w1 at *;generalize wayT i (k - 1) = w2 at *;generalize wayT (i + 1) k = w3 at *;repeat (first | apply Wp.seqA | apply Wp.skipS | apply Wp.blockS | ((first | apply Wp.regS | apply Wp.condV | apply Wp.reg | apply Wp.condW | apply fin_ret); simp -implicitDefEqProofs (maxSteps := 2000000) (disch := first | exact tt_rfl rfl | omega | (simp only [go_sem] <;> omega) | fail) only [go_sem, c1, Int.natCast_pos, a1, a2, a3, a4, e2, n1, Int.toNat_natCast] <;> try with_reducible rfl) | apply Wp.block | apply Wp.exitS | apply Wp.retS | apply Wp.exit | apply Wp.ret | apply Wp.skip)
   apply round_next
   ·simp -implicitDefEqProofs (maxSteps := 2000000) (disch := first | exact tt_rfl rfl | omega | (simp only [go_sem] <;> omega) | fail) only [go_sem, norm_eq, Ok.some]; with_reducible rfl
   refine ⟨hq', ?_, trivial⟩;rw [e3, show (m : Int) - ((q + 1 : Nat) : Int) = ((k - 1 : Nat) : Int) by omega]
  ·obtain rfl : q = m := by omega
   rw [Int.sub_self, Nat.sub_self, wl_next];repeat (first | apply Wp.seqA | apply Wp.skipS | apply Wp.blockS | ((first | apply Wp.regS | apply Wp.condV | apply Wp.reg | apply Wp.condW | apply fin_ret); simp -implicitDefEqProofs (maxSteps := 2000000) (disch := first | exact tt_rfl rfl | omega | (simp only [go_sem] <;> omega) | fail) only [go_sem, Int.lt_irrefl] <;> try with_reducible rfl) | apply Wp.block | apply Wp.exitS | apply Wp.retS | apply Wp.exit | apply Wp.ret | apply Wp.skip)
   apply round_next
   ·simp -implicitDefEqProofs (maxSteps := 2000000) (disch := first | exact tt_rfl rfl | omega | (simp only [go_sem] <;> omega) | fail) only [go_sem, norm_eq, Ok.some]; with_reducible rfl
   exact ⟨h', by simp, trivial⟩
 ·obtain rfl : i = g := by omega
  repeat (first | apply Wp.seqA | apply Wp.skipS | apply Wp.blockS | ((first | apply Wp.regS | apply Wp.condV | apply Wp.reg | apply Wp.condW | apply fin_ret); simp -implicitDefEqProofs (maxSteps := 2000000) (disch := first | exact tt_rfl rfl | omega | (simp only [go_sem] <;> omega) | fail) only [go_sem, Int.lt_irrefl] <;> try with_reducible rfl) | apply Wp.block | apply Wp.exitS | apply Wp.retS | apply Wp.exit | apply Wp.ret | apply Wp.skip)
  have hgl : ∀ j, j < m + 1 → (wl i m m)[j]? = some (iv ((wayT i j : Nat) : Int)) := fun j hj => by
   rw [wl_get (by omega), if_neg (by omega)]
  have n1 := wl_len i m m;have hlen : ((1 + m : Nat) : Int) = ((m + 1 : Nat) : Int) := by omega
  have hss : ∀ j, sumW i (j + 1) = min capK (sumW i j + wayT i j) := fun j => rfl
  have hsl2 := sumW_le i;have hwl2 := wayT_le i;have b3 : capK = 1000000000001 := rfl;clear hR hG n2 t2 P2 hsl tS z1 hrow hjl;generalize wl i m m = ws at *;rw [hlen, Nat.add_comm 1 m];apply Wp.loopF (m + 1) (fun j => ⟨[(14, iv ((sumW i j : Nat) : Int)), (58, .slice 3712 0 (m + 1)), (59, iv ((m + 1 : Nat) : Int)), (60, iv (j : Int))], [(3712, .arr 1 ws)], [], 10000000⟩) (fun _ => True)
  ·simp -implicitDefEqProofs (maxSteps := 2000000) (disch := first | exact tt_rfl rfl | omega | (simp only [go_sem] <;> omega) | fail) only [go_sem, norm_eq, Ok.some]
   rfl
  ·trivial
  intro j hj _;by_cases h' : j < m + 1
  ·have a1 := hgl j h'
   have a2 := hsl2 j;have a3 := hwl2 j;have a4 := min_cap (sumW i j) (wayT i j);rw [← hss j] at a4;rw [hss];rw [hss] at a4;generalize sumW i j = s at *;generalize wayT i j = w at *;generalize min capK (s + w) = sw at *;repeat (first | apply Wp.seqA | apply Wp.skipS | apply Wp.blockS | ((first | apply Wp.regS | apply Wp.condV | apply Wp.reg | apply Wp.condW | apply fin_ret); simp -implicitDefEqProofs (maxSteps := 2000000) (disch := first | exact tt_rfl rfl | omega | (simp only [go_sem] <;> omega) | fail) only [go_sem, h', Int.ofNat_lt, a1, a4, n1] <;> try with_reducible rfl) | apply Wp.block | apply Wp.exitS | apply Wp.retS | apply Wp.exit | apply Wp.ret | apply Wp.skip)
   apply round_next
   ·simp -implicitDefEqProofs (maxSteps := 2000000) (disch := first | exact tt_rfl rfl | omega | (simp only [go_sem] <;> omega) | fail) only [go_sem, norm_eq, Ok.some]; with_reducible rfl
   exact ⟨h', by simp, trivial⟩
  ·obtain rfl : j = m + 1 := by omega
   have a2 := hsl2 (m + 1);by_cases hc : sumW i (m + 1) = capK
   ·rw [if_pos hc, hc, b3]
    have e9 : ((1000000000001 : Nat) : Int) = 1000000000001 := rfl;repeat (first | apply Wp.seqA | apply Wp.skipS | apply Wp.blockS | ((first | apply Wp.regS | apply Wp.condV | apply Wp.reg | apply Wp.condW | apply fin_ret); simp -implicitDefEqProofs (maxSteps := 2000000) (disch := first | exact tt_rfl rfl | omega | (simp only [go_sem] <;> omega) | fail) only [go_sem, Int.lt_irrefl, e9] <;> try with_reducible rfl) | apply Wp.block | apply Wp.exitS | apply Wp.retS | apply Wp.exit | apply Wp.ret | apply Wp.skip)
   ·rw [if_neg hc]
    generalize sumW i (m + 1) = s at *;repeat (first | apply Wp.seqA | apply Wp.skipS | apply Wp.blockS | ((first | apply Wp.regS | apply Wp.condV | apply Wp.reg | apply Wp.condW | apply fin_ret); simp -implicitDefEqProofs (maxSteps := 2000000) (disch := first | exact tt_rfl rfl | omega | (simp only [go_sem] <;> omega) | fail) only [go_sem, Int.lt_irrefl, show ¬ (s : Int) = 1000000000001 by omega] <;> try with_reducible rfl) | apply Wp.block | apply Wp.exitS | apply Wp.retS | apply Wp.exit | apply Wp.ret | apply Wp.skip)
end Go.Abs
set_option linter.all false
namespace Go.Abs
set_option maxRecDepth 10000
set_option maxHeartbeats 4000000
def hiJ (hk n m : Nat) (j : List Nat) : List Nat := if 0 < m then fullN hk n else j
def sureN (t : Bool) (hk n m : Nat) (j : List Nat) : List Nat := turnL t hk (if t then hiJ hk n m j else j)
def canN (t : Bool) (hk n m : Nat) (j : List Nat) : List Nat := turnL t hk (if t then j else hiJ hk n m j)
end Go.Abs
