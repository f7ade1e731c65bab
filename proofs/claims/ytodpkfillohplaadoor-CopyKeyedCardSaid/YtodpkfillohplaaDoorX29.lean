/-
 Chapter 12: what the original can be by the keys, of any size, by the program; keys by the law's words. No condition beyond those that each theorem names.
-/
import Derived.Test.YtodpkfillohplaaDoorX26
import Derived.Test.YtodpkfillohplaaDoorW4
set_option linter.all false
namespace Go.Abs
set_option maxRecDepth 10000
set_option maxHeartbeats 4000000
theorem card12 (t : Bool) (hk j : Nat) (k : Int) (h24 : hk ≤ 24) (h12 : hk ≤ 12) (hk1 : -1 ≤ k) (hk2 : k ≤ 27624) (hj : j < 2 ^ hk) : ∃ S C M : Nat, M ≤ 2 ^ hk ∧ CardOk t hk j k S C M ∧ lim F 78 [.agg [iv (hk : Int), .bool t], iv (j : Int), iv k] = some (.agg [iv (S : Int), iv (C : Int), iv (M : Int)], []) := by
 have hle : ∀ {S C M : Nat}, CardOk t hk j k S C M → M ≤ 2 ^ hk := fun h => by
  rw [h.m];exact Nat.le_trans (List.length_filter_le _ _) (by simp)
 have h4096 : 2 ^ hk ≤ 2 ^ 12 := Nat.pow_le_pow_right (by omega) h12
 by_cases e : k = -1
 ·subst e
  exact ⟨_, _, _, hle (blot_is t hk j h24 hj), blot_is t hk j h24 hj, card_blot t hk j h24 hj⟩
 ·obtain ⟨m, rfl⟩ := Int.eq_ofNat_of_zero_le (show 0 ≤ k by omega)
  have hc := card_is t hk m j h24 hj;refine ⟨_, _, _, hle hc, hc, card_key t hk m j h24 (by omega) hj ?_ ?_⟩
  ·have := hle hc
   omega
  ·intro q
   unfold woN cZ;split
   ·rw [← sel_count]
    have e1 : ∀ n s, ((List.range (2 ^ 24)).filter (selX (subN (freeN hk j) (2 ^ q)) 24 n s)).length ≤ 2 ^ hk := fun n s => by
     rw [sel_count];have := cN_top (subN_lt (y := 2 ^ q) (freeN_lt hk j)) n s (24 - hk);rw [show hk + (24 - hk) = 24 by omega] at this
     rw [this, ← sel_count];exact Nat.le_trans (List.length_filter_le _ _) (by simp)
    have := e1 (nL t j hk ((m % 100 : Nat) : Int)).toNat (sL t j hk ((m / 100 : Nat) : Int)).toNat;omega
   ·omega
theorem Restore_full {l : List DesN} {hk n : Nat} (h : SetsOk l hk n) (t : Bool) (keys : List Int) (hkl : keysE n keys = 0) (h12 : hk ≤ 12) (S C M : Nat → Nat) (hM1 : ∀ i, i < n → M i ≤ 4096) (hS : ∀ i, i < n → S i < 2 ^ hk) (hC : ∀ i, i < n → C i < 2 ^ hk) (hcard : ∀ i, i < n → lim F 78 [.agg [iv (hk : Int), .bool t], iv (((joinN (setsN t hk l) n).getD i 0 : Nat) : Int), iv (keys.getD i 0)] = some (.agg [iv (S i : Int), iv (C i : Int), iv (M i : Int)], [])) : lim F 46 [iv (wayOf t), .list 2 (l.map setV), .list 1 (keys.map fun k => iv k)] = some (if prodM M n = 0 then .tuple [.agg [iv 0, .own 1 []], .agg [iv 0, .own 1 []], iv 0, iv 9] else if 1000000000000 < prodM M n then .tuple [.agg [iv 0, .own 1 []], .agg [iv 0, .own 1 []], iv 0, iv 8] else .tuple [.agg [iv (hk : Int), .own 1 (natsV (turnL t hk (if t then upTo C n else upTo S n)))], .agg [iv (hk : Int), .own 1 (natsV (turnL t hk (if t then upTo S n else upTo C n)))], iv (prodM M n : Int), iv 0], []) := by
 obtain ⟨⟨k1, k2⟩, k3, k4⟩ := h.k1;have hl1 := h.l1;have hl10 := h.l10;have hO := open_ok h t;have hrow := setsN_row (t := t) h;have hr24 : ∀ r ∈ setsN t hk l, r.length = n ∧ ∀ x ∈ r, x < 2 ^ 24 := fun r hr => ⟨(hrow r hr).1, fun x hx => up24 ((hrow r hr).2 x hx) k2⟩
 have hJ := join_ok (setsN t hk l) n (by simp; exact h.l1) (by simp; omega) (by omega) hr24
 have hkl2 : keys.length = n := by
  unfold keysE at hkl;split at hkl
  ·cases hkl
  ·rename_i hh; exact Classical.not_not.1 hh
 have hCK := checkKeys_ok n keys (by omega)
 rw [hkl] at hCK;have hB := both_ok t hk n k2 k3 k4 (upTo S n) (upTo C n) (by simp [upTo]) (by simp [upTo]) (fun x hx => by
  obtain ⟨q, hq, rfl⟩ := List.mem_map.1 hx;exact hS q (List.mem_range.1 hq)) (fun x hx => by
  obtain ⟨q, hq, rfl⟩ := List.mem_map.1 hx;exact hC q (List.mem_range.1 hq))
 have hsl : ((setsN t hk l).map listV).length = l.length := by simp
 have tS : ((setsN t hk l).map listV).take l.length = (setsN t hk l).map listV := List.take_of_length_le (by omega)
 have hg0 : (l.map setV)[0]? = some (setV (l.getD 0 ⟨0, []⟩)) := by
  rw [List.getElem?_map, List.getElem?_eq_getElem hl1, List.getD_eq_getElem?_getD, List.getElem?_eq_getElem hl1];rfl
 have hgd : l.getD 0 ⟨0, []⟩ = l[0] := by rw [List.getD_eq_getElem?_getD, List.getElem?_eq_getElem hl1]; rfl
 have hh0 : (l.getD 0 ⟨0, []⟩).hk = hk := by rw [hgd]; exact h.hk _ (List.getElem_mem _)
 have hr0 : (natsV (l.getD 0 ⟨0, []⟩).rows).length = n := by rw [hgd]; simp; exact h.rows _ (List.getElem_mem _)
 have hkg : ∀ i, i < n → (keys.map fun k => iv k)[i]? = some (iv (keys.getD i 0)) := fun i hi => by
  rw [List.getElem?_map, List.getElem?_eq_getElem (by omega), List.getD_eq_getElem?_getD, List.getElem?_eq_getElem (by omega)]
  rfl
 have hjn : (joinN (setsN t hk l) n).length = n := by simp
 generalize joinN (setsN t hk l) n = j at *;have hjg : ∀ i, i < n → (natsV j)[i]? = some (iv ((j.getD i 0 : Nat) : Int)) := fun i hi => nats_at (by omega)
 have n2 : (natsV j).length = n := by simp [hjn]
 have t2 : (natsV j).take n = natsV j := List.take_of_length_le (by omega)
 have P2 := nats_plain j;have hu1 := upTo_succ S;have hu2 := upTo_succ C;have hlS := upTo_len S;have hlC := upTo_len C;have hps : ∀ i, prodM M (i + 1) = prodM M i * M i := fun i => rfl
 have hpz : ∀ i, i < n → M i = 0 → prodM M n = 0 := fun i hi h0 => by
  have : ∀ d, prodM M (i + 1 + d) = 0 := fun d => by
   induction d with
   | zero => rw [Nat.add_zero, hps, h0, Nat.mul_zero]
   | succ d ih => rw [show i + 1 + (d + 1) = (i + 1 + d) + 1 by omega, hps, ih, Nat.zero_mul]
  have := this (n - (i + 1));rw [show i + 1 + (n - (i + 1)) = n by omega] at this
  exact this
 unfold openV at hO;unfold setV at hg0 hO ⊢;rw [hh0] at hg0;generalize natsV (l.getD 0 ⟨0, []⟩).rows = r0 at *;generalize (setsN t hk l).map listV = sr at *;generalize (l.map fun d => AV.agg [iv (d.hk : Int), .list 1 (natsV d.rows)]) = es at *
 generalize natsV j = jv at *;have hkn : (keys.map fun k => iv k).length = n := by simp [hkl2]
 generalize (keys.map fun k => iv k) = kv at *
 refine lim_by (fn := a46) (k := 3) (res := [.cell 6 2 true, .cell 7 2 true, .tmp 8, .tmp 9]) rfl rfl rfl (by simp -implicitDefEqProofs (maxSteps := 2000000) (disch := first | exact tt_rfl rfl | omega | (simp only [go_sem] <;> omega) | fail) only [go_sem]) ?_
 try delta mvA
 try delta opA
 try delta tA
 simp -implicitDefEqProofs (maxSteps := 2000000) (disch := first | exact tt_rfl rfl | omega | (simp only [go_sem] <;> omega) | fail) only [go_sem]
 repeat (first | apply Wp.seqA | apply Wp.skipS | apply Wp.blockS | ((first | apply Wp.regS | apply Wp.condV | apply Wp.reg | apply Wp.condW | apply fin_ret); simp -implicitDefEqProofs (maxSteps := 2000000) (disch := first | exact tt_rfl rfl | omega | (simp only [go_sem] <;> omega) | fail) only [go_sem, ite_self, hO, hg0, hr0, hCK, hJ, hsl, tS, n2, t2, P2] <;> try with_reducible rfl) | apply Wp.block | apply Wp.exitS | apply Wp.retS | apply Wp.exit | apply Wp.ret | apply Wp.skip)
 apply Wp.loopF n (fun i => ⟨[(2, .list 1 kv), (6, .ptr 384 0 0), (7, .ptr 448 0 0), (8, iv ((min 1000000000001 (prodM M i) : Nat) : Int)), (10, .ptr 640 0 0), (11, .slice 704 0 i), (12, .slice 768 0 i), (38, .slice 2432 0 n), (39, iv (n : Int)), (40, iv (i : Int))], [(384, .box [iv 0, .slice 306145 0 0]), (448, .box [iv 0, .slice 307169 0 0]), (640, .box [iv (hk : Int), .bool t, .slice 310242 0 l.length]), (704, .arr 1 (natsV (upTo S i))), (768, .arr 1 (natsV (upTo C i))), (2432, .arr 1 jv), (306145, .arr 1 []), (307169, .arr 1 []), (310242, .arr 1 sr)], [], 10000000⟩) (fun i => prodM M i ≠ 0)
 ·simp -implicitDefEqProofs (maxSteps := 2000000) (disch := first | exact tt_rfl rfl | omega | (simp only [go_sem] <;> omega) | fail) only [go_sem, norm_eq, Ok.some]
  rfl
 ·unfold prodM; omega
 intro i hi hne;by_cases h' : i < n
 ·have a1 := hjg i h'
  have a2 := hkg i h';have a3 := hcard i h';have a4 := hM1 i h';have a6 := hps i;have a7 := hpz i h';have b1 := hlS i;have b2 := hlC i;rw [hu1 i, hu2 i, a6];clear hS hC hcard hjg hkg hM1 hps hpz hu1 hu2 hlS hlC hB hJ hO hCK hg0;generalize natsV (upTo S i) = LS at *;generalize natsV (upTo C i) = LC at *;generalize j.getD i 0 = ji at *;generalize keys.getD i 0 = ki at *;by_cases hm0 : M i = 0
  ·rw [a7 hm0, if_pos rfl]
   rw [hm0] at a3;generalize S i = si at *;generalize C i = ci at *;repeat (first | apply Wp.seqA | apply Wp.skipS | apply Wp.blockS | ((first | apply Wp.regS | apply Wp.condV | apply Wp.reg | apply Wp.condW | apply fin_ret); simp -implicitDefEqProofs (maxSteps := 2000000) (disch := first | exact tt_rfl rfl | omega | (simp only [go_sem] <;> omega) | fail) only [go_sem, h', Int.ofNat_lt, a1, a2, a3, n2, hkn, Int.natCast_zero] <;> try with_reducible rfl) | apply Wp.block | apply Wp.exitS | apply Wp.retS | apply Wp.exit | apply Wp.ret | apply Wp.skip)
  ·have d1 : Int.tdiv 1000000000000 ((M i : Nat) : Int) = ((1000000000000 / M i : Nat) : Int) := by
    rw [Int.tdiv_eq_ediv_of_nonneg (by omega)]
    rfl
   have d6 : 1000000000000 / M i ≤ 1000000000000 := Nat.div_le_self _ _;have d5 : prodM M i * M i ≠ 0 := Nat.mul_ne_zero hne hm0;have d7 : 1000000000000 / M i < prodM M i ↔ 1000000000000 < prodM M i * M i := Nat.div_lt_iff_lt_mul (by omega)
   have d8 : prodM M i ≤ prodM M i * M i := Nat.le_mul_of_pos_right _ (by omega)
   by_cases hcap : 1000000000000 / M i < min 1000000000001 (prodM M i)
   ·have e1 : min 1000000000001 (prodM M i * M i) = 1000000000001 := by
     have : 1000000000000 < prodM M i * M i := d7.1 (by omega)
     omega
    rw [e1];generalize min 1000000000001 (prodM M i) = pm at *;generalize 1000000000000 / M i = dv at *;generalize prodM M i * M i = pm' at *;generalize M i = mi at *;generalize S i = si at *;generalize C i = ci at *;repeat (first | apply Wp.seqA | apply Wp.skipS | apply Wp.blockS | ((first | apply Wp.regS | apply Wp.condV | apply Wp.reg | apply Wp.condW | apply fin_ret); simp -implicitDefEqProofs (maxSteps := 2000000) (disch := first | exact tt_rfl rfl | omega | (simp only [go_sem] <;> omega) | fail) only [go_sem, h', Int.ofNat_lt, a1, a2, a3, n2, hkn, d1, b1, b2, gt_iff_lt, hcap, show ¬ (mi : Int) = 0 by omega] <;> try with_reducible rfl) | apply Wp.block | apply Wp.exitS | apply Wp.retS | apply Wp.exit | apply Wp.ret | apply Wp.skip)
    apply round_next
    ·simp -implicitDefEqProofs (maxSteps := 2000000) (disch := first | exact tt_rfl rfl | omega | (simp only [go_sem] <;> omega) | fail) only [go_sem, norm_eq, Ok.some]; with_reducible rfl
    exact ⟨h', by simp, d5⟩
   ·have e0 : min 1000000000001 (prodM M i) = prodM M i := by omega
    rw [e0] at hcap ⊢;have e2 : ¬ 1000000000000 < prodM M i * M i := fun h => hcap (d7.2 h)
    have e1 : min 1000000000001 (prodM M i * M i) = prodM M i * M i := by omega
    rw [e1];have d3 : ((prodM M i : Nat) : Int) * ((M i : Nat) : Int) = ((prodM M i * M i : Nat) : Int) := by simp
    generalize prodM M i * M i = pm' at *;generalize prodM M i = pm at *;generalize 1000000000000 / M i = dv at *;generalize M i = mi at *;generalize S i = si at *;generalize C i = ci at *;repeat (first | apply Wp.seqA | apply Wp.skipS | apply Wp.blockS | ((first | apply Wp.regS | apply Wp.condV | apply Wp.reg | apply Wp.condW | apply fin_ret); simp -implicitDefEqProofs (maxSteps := 2000000) (disch := first | exact tt_rfl rfl | omega | (simp only [go_sem] <;> omega) | fail) only [go_sem, h', Int.ofNat_lt, a1, a2, a3, n2, hkn, d1, d3, b1, b2, gt_iff_lt, hcap, show ¬ (mi : Int) = 0 by omega] <;> try with_reducible rfl) | apply Wp.block | apply Wp.exitS | apply Wp.retS | apply Wp.exit | apply Wp.ret | apply Wp.skip)
    apply round_next
    ·simp -implicitDefEqProofs (maxSteps := 2000000) (disch := first | exact tt_rfl rfl | omega | (simp only [go_sem] <;> omega) | fail) only [go_sem, norm_eq, Ok.some]; with_reducible rfl
    exact ⟨h', by simp, d5⟩
 ·obtain rfl : i = n := by omega
  have b1 := hlS i;have b2 := hlC i;rw [if_neg hne];have t3 : (natsV (upTo S i)).take i = natsV (upTo S i) := List.take_of_length_le (by omega)
  have t4 : (natsV (upTo C i)).take i = natsV (upTo C i) := List.take_of_length_le (by omega)
  have P3 := nats_plain (upTo S i);have P4 := nats_plain (upTo C i);have n5 : (natsV (turnL t hk (if t then upTo C i else upTo S i))).length = i := by cases t <;> simp [upTo]
  have n6 : (natsV (turnL t hk (if t then upTo S i else upTo C i))).length = i := by cases t <;> simp [upTo]
  have t5 : (natsV (turnL t hk (if t then upTo C i else upTo S i))).take i = natsV (turnL t hk (if t then upTo C i else upTo S i)) := List.take_of_length_le (by omega)
  have t6 : (natsV (turnL t hk (if t then upTo S i else upTo C i))).take i = natsV (turnL t hk (if t then upTo S i else upTo C i)) := List.take_of_length_le (by omega)
  have P5 := nats_plain (turnL t hk (if t then upTo C i else upTo S i))
  have P6 := nats_plain (turnL t hk (if t then upTo S i else upTo C i))
  clear hS hC hcard hjg hkg hM1 hps hpz hu1 hu2 hlS hlC hJ hO hCK hg0;generalize natsV (turnL t hk (if t then upTo C i else upTo S i)) = R1 at *
  generalize natsV (turnL t hk (if t then upTo S i else upTo C i)) = R2 at *
  generalize natsV (upTo S i) = LS at *;generalize natsV (upTo C i) = LC at *;generalize prodM M i = pm at *;by_cases hbig : 1000000000000 < pm
  ·rw [if_pos hbig, show min 1000000000001 pm = 1000000000001 by omega]
   repeat (first | apply Wp.seqA | apply Wp.skipS | apply Wp.blockS | ((first | apply Wp.regS | apply Wp.condV | apply Wp.reg | apply Wp.condW | apply fin_ret); simp -implicitDefEqProofs (maxSteps := 2000000) (disch := first | exact tt_rfl rfl | omega | (simp only [go_sem] <;> omega) | fail) only [go_sem, Int.lt_irrefl, b1, b2, t3, t4, P3, P4] <;> try with_reducible rfl) | apply Wp.block | apply Wp.exitS | apply Wp.retS | apply Wp.exit | apply Wp.ret | apply Wp.skip)
  ·rw [if_neg hbig, show min 1000000000001 pm = pm by omega]
   repeat (first | apply Wp.seqA | apply Wp.skipS | apply Wp.blockS | ((first | apply Wp.regS | apply Wp.condV | apply Wp.reg | apply Wp.condW | apply fin_ret); simp -implicitDefEqProofs (maxSteps := 2000000) (disch := first | exact tt_rfl rfl | omega | (simp only [go_sem] <;> omega) | fail) only [go_sem, Int.lt_irrefl, b1, b2, t3, t4, P3, P4, hB, n5, n6, t5, t6, P5, P6, show ¬ (1000000000000 : Int) < pm by omega] <;> try with_reducible rfl) | apply Wp.block | apply Wp.exitS | apply Wp.retS | apply Wp.exit | apply Wp.ret | apply Wp.skip)
theorem ints_ok12 (l : List Int) (hl : l.length ≤ 100000) : lim F 40 [.list 1 (l.map fun k => iv k)] = some (.own 1 (l.map fun k => iv k), []) := by
 have n1 : (l.map fun k => iv k).length = l.length := by simp
 have P1 := int_plain l;generalize (l.map fun k => iv k) = es at *
 have t1 : es.take l.length = es := List.take_of_length_le (by omega)
 refine lim_by (fn := a40) (k := 1) (res := [.tmp 2]) rfl rfl rfl (by simp -implicitDefEqProofs (maxSteps := 2000000) (disch := first | exact tt_rfl rfl | omega | (simp only [go_sem] <;> omega) | fail) only [go_sem]) ?_
 try delta mvA
 try delta opA
 try delta tA
 simp -implicitDefEqProofs (maxSteps := 2000000) (disch := first | exact tt_rfl rfl | omega | (simp only [go_sem] <;> omega) | fail) only [go_sem]
 repeat (first | apply Wp.seqA | apply Wp.skipS | apply Wp.blockS | ((first | apply Wp.regS | apply Wp.condV | apply Wp.reg | apply Wp.condW | apply fin_ret); simp -implicitDefEqProofs (maxSteps := 2000000) (disch := first | exact tt_rfl rfl | omega | (simp only [go_sem] <;> omega) | fail) only [go_sem, n1, t1, P1] <;> try with_reducible rfl) | apply Wp.block | apply Wp.exitS | apply Wp.retS | apply Wp.exit | apply Wp.ret | apply Wp.skip)
theorem sz_top {x : Nat} : x < 2 ^ szB x := by
 have h := szB_iff x (szB x);have hp : 0 < 2 ^ szB x := Nat.pow_pos (by omega)
 rcases Nat.lt_or_ge x (2 ^ szB x) with g | g
 ·exact g
 ·have : 0 < x / 2 ^ szB x := Nat.div_pos g hp
  exact absurd (h.2 this) (Nat.lt_irrefl _)
theorem sz_le {x n : Nat} (hx : x < 2 ^ n) : szB x ≤ n := by
 have h := szB_iff x n;rcases Nat.lt_or_ge n (szB x) with g | g
 ·have := h.1 g
  rw [Nat.div_eq_of_lt hx] at this;omega
 ·exact g
theorem lawKeyOf_ok (x : Nat) (hx : x < 2 ^ 24) : lim F 54 [iv (x : Int)] = some (iv ((keyN x : Nat) : Int), []) := by
 have hk : keyN x = bitsN x (szB x) + 100 * sumB x (szB x) := by
  unfold keyN;rw [bitsN_top sz_top (sz_le hx), sumB_top sz_top (sz_le hx)]
 rw [hk];have hz := sz_le hx;refine lim_by (fn := a54) (k := 1) (res := [.tmp 2]) rfl rfl rfl (by simp -implicitDefEqProofs (maxSteps := 2000000) (disch := first | exact tt_rfl rfl | omega | (simp only [go_sem] <;> omega) | fail) only [go_sem]) ?_
 try delta mvA
 try delta opA
 try delta tA
 simp -implicitDefEqProofs (maxSteps := 2000000) (disch := first | exact tt_rfl rfl | omega | (simp only [go_sem] <;> omega) | fail) only [go_sem]
 repeat (first | apply Wp.seqA | apply Wp.skipS | apply Wp.blockS | ((first | apply Wp.regS | apply Wp.condV | apply Wp.reg | apply Wp.condW | apply fin_ret); simp -implicitDefEqProofs (maxSteps := 2000000) (disch := first | exact tt_rfl rfl | omega | (simp only [go_sem] <;> omega) | fail) only [go_sem] <;> try with_reducible rfl) | apply Wp.block | apply Wp.exitS | apply Wp.retS | apply Wp.exit | apply Wp.ret | apply Wp.skip)
 apply Wp.loopF (szB x) (fun i => ⟨[(0, iv ((x / 2 ^ i : Nat) : Int)), (3, iv ((bitsN x i + 100 * sumB x i : Nat) : Int)), (4, iv (i : Int))], [], [], 10000000⟩) (fun _ => True)
 ·simp -implicitDefEqProofs (maxSteps := 2000000) (disch := first | exact tt_rfl rfl | omega | (simp only [go_sem] <;> omega) | fail) only [go_sem, norm_eq, Ok.some]
  simp [bitsN, sumB]
 ·trivial
 intro i hi _;have hpos := szB_iff x i;by_cases h' : i < szB x
 ·have h0 := hpos.1 h'
  have hb := bit_step x i;have e1 := bitsN_succ x i;have e2 := sumB_succ x i;have e3 : x / 2 ^ i / 2 = x / 2 ^ (i + 1) := by rw [Nat.div_div_eq_div_mul, Nat.pow_succ]
  have e4 : Int.tmod ((x / 2 ^ i : Nat) : Int) 2 = ((x / 2 ^ i % 2 : Nat) : Int) := rfl;have e5 : Int.tdiv ((x / 2 ^ i : Nat) : Int) 2 = ((x / 2 ^ i / 2 : Nat) : Int) := rfl;have l1 := bitsN_le x i;have l2 := sumB_two x i;have l3 : i * i ≤ 24 * 24 := Nat.mul_le_mul (by omega) (by omega)
  have l4 : x / 2 ^ i ≤ x := Nat.div_le_self _ _;rw [e3] at e5;rw [e1, e2];generalize x / 2 ^ (i + 1) = y' at *;generalize x / 2 ^ i = y at *;generalize bitsN x i = bi at *;generalize sumB x i = si at *;cases hbit : x.testBit i with
  | true =>
   rw [hbit] at hb;rw [hb] at e4;repeat (first | apply Wp.seqA | apply Wp.skipS | apply Wp.blockS | ((first | apply Wp.regS | apply Wp.condV | apply Wp.reg | apply Wp.condW | apply fin_ret); simp -implicitDefEqProofs (maxSteps := 2000000) (disch := first | exact tt_rfl rfl | omega | (simp only [go_sem] <;> omega) | fail) only [go_sem, e4, e5, gt_iff_lt, show (0 : Int) < (y : Int) by omega, Bool.toNat_true, decide_true] <;> try with_reducible rfl) | apply Wp.block | apply Wp.exitS | apply Wp.retS | apply Wp.exit | apply Wp.ret | apply Wp.skip)
   apply round_next
   ·simp -implicitDefEqProofs (maxSteps := 2000000) (disch := first | exact tt_rfl rfl | omega | (simp only [go_sem] <;> omega) | fail) only [go_sem, norm_eq, Ok.some]; with_reducible rfl
   exact ⟨h', by simp; omega, trivial⟩
  | false =>
   rw [hbit] at hb;rw [hb] at e4;repeat (first | apply Wp.seqA | apply Wp.skipS | apply Wp.blockS | ((first | apply Wp.regS | apply Wp.condV | apply Wp.reg | apply Wp.condW | apply fin_ret); simp -implicitDefEqProofs (maxSteps := 2000000) (disch := first | exact tt_rfl rfl | omega | (simp only [go_sem] <;> omega) | fail) only [go_sem, e4, e5, gt_iff_lt, show (0 : Int) < (y : Int) by omega, Bool.toNat_false, decide_true] <;> try with_reducible rfl) | apply Wp.block | apply Wp.exitS | apply Wp.retS | apply Wp.exit | apply Wp.ret | apply Wp.skip)
   apply round_next
   ·simp -implicitDefEqProofs (maxSteps := 2000000) (disch := first | exact tt_rfl rfl | omega | (simp only [go_sem] <;> omega) | fail) only [go_sem, norm_eq, Ok.some]; with_reducible rfl
   exact ⟨h', by simp, trivial⟩
 ·obtain rfl : i = szB x := by omega
  have hy : x / 2 ^ szB x = 0 := Nat.div_eq_of_lt sz_top;rw [hy];repeat (first | apply Wp.seqA | apply Wp.skipS | apply Wp.blockS | ((first | apply Wp.regS | apply Wp.condV | apply Wp.reg | apply Wp.condW | apply fin_ret); simp -implicitDefEqProofs (maxSteps := 2000000) (disch := first | exact tt_rfl rfl | omega | (simp only [go_sem] <;> omega) | fail) only [go_sem, gt_iff_lt, show ¬ (0 : Int) < ((0 : Nat) : Int) by omega] <;> try with_reducible rfl) | apply Wp.block | apply Wp.exitS | apply Wp.retS | apply Wp.exit | apply Wp.ret | apply Wp.skip)
end Go.Abs
