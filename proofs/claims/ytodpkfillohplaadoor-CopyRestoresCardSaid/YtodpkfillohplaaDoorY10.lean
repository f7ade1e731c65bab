/-
 Several texts: X26, X27, Y10.
-/
import Derived.Test.YtodpkfillohplaaDoorY9
set_option linter.all false
namespace Go.Abs
set_option maxRecDepth 10000
set_option maxHeartbeats 4000000

def prodM (M : Nat → Nat) : Nat → Nat
 | 0 => 1
 | i + 1 => prodM M i * M i
theorem prodM_le {M : Nat → Nat} {hk : Nat} : ∀ {i : Nat}, (∀ q, q < i → M q ≤ 2 ^ hk) → prodM M i ≤ 2 ^ (hk * i)
 | 0, _ => Nat.le_refl _
 | i + 1, h => by
  have h1 := prodM_le (M := M) (hk := hk) (i := i) fun q hq => h q (by omega)
  have h2 := h i (by omega)
  have e : 2 ^ (hk * (i + 1)) = 2 ^ (hk * i) * 2 ^ hk := by rw [Nat.mul_succ, Nat.pow_add]
  rw [e]
  exact Nat.mul_le_mul h1 h2
theorem card_ok (t : Bool) (hk j : Nat) (k : Int) (h24 : hk ≤ 24) (h10 : hk ≤ 10) (hk1 : -1 ≤ k) (hk2 : k ≤ 27624) (hj : j < 2 ^ hk) : ∃ S C M : Nat, M ≤ 2 ^ hk ∧ CardOk t hk j k S C M ∧ lim F 78 [.agg [iv (hk : Int), .bool t], iv (j : Int), iv k] = some (.agg [iv (S : Int), iv (C : Int), iv (M : Int)], []) := by
 have hle : ∀ {S C M : Nat}, CardOk t hk j k S C M → M ≤ 2 ^ hk := fun h => by
  rw [h.m]
  exact Nat.le_trans (List.length_filter_le _ _) (by simp)
 have h1024 : 2 ^ hk ≤ 2 ^ 10 := Nat.pow_le_pow_right (by omega) h10
 by_cases e : k = -1
 ·subst e
  exact ⟨_, _, _, hle (blot_is t hk j h24 hj), blot_is t hk j h24 hj, card_blot t hk j h24 hj⟩
 ·obtain ⟨m, rfl⟩ := Int.eq_ofNat_of_zero_le (show 0 ≤ k by omega)
  have hc := card_is t hk m j h24 hj
  refine ⟨_, _, _, hle hc, hc, card_key t hk m j h24 (by omega) hj ?_ ?_⟩
  ·have := hle hc
   omega
  ·intro q
   unfold woN cZ
   split
   ·rw [← sel_count]
    have e1 : ∀ n s, ((List.range (2 ^ 24)).filter (selX (subN (freeN hk j) (2 ^ q)) 24 n s)).length ≤ 2 ^ hk := fun n s => by
     rw [sel_count]
     have := cN_top (subN_lt (y := 2 ^ q) (freeN_lt hk j)) n s (24 - hk)
     rw [show hk + (24 - hk) = 24 by omega] at this
     rw [this, ← sel_count]
     exact Nat.le_trans (List.length_filter_le _ _) (by simp)
    have := e1 (nL t j hk ((m % 100 : Nat) : Int)).toNat (sL t j hk ((m / 100 : Nat) : Int)).toNat
    omega
   ·omega
theorem Restore_walk {l : List DesN} {hk n : Nat} (h : SetsOk l hk n) (t : Bool) (keys : List Int) (hkl : keysE n keys = 0) (hp : hk * n ≤ 10) (S C M : Nat → Nat) (hM : ∀ i, i < n → M i ≤ 2 ^ hk) (hS : ∀ i, i < n → S i < 2 ^ hk) (hC : ∀ i, i < n → C i < 2 ^ hk) (hcard : ∀ i, i < n → lim F 78 [.agg [iv (hk : Int), .bool t], iv (((joinN (setsN t hk l) n).getD i 0 : Nat) : Int), iv (keys.getD i 0)] = some (.agg [iv (S i : Int), iv (C i : Int), iv (M i : Int)], [])) : lim F 46 [iv (wayOf t), .list 2 (l.map setV), .list 1 (keys.map fun k => iv k)] = some (if prodM M n = 0 then .tuple [.agg [iv 0, .own 1 []], .agg [iv 0, .own 1 []], iv 0, iv 9] else .tuple [.agg [iv (hk : Int), .own 1 (natsV (turnL t hk (if t then upTo C n else upTo S n)))], .agg [iv (hk : Int), .own 1 (natsV (turnL t hk (if t then upTo S n else upTo C n)))], iv (prodM M n : Int), iv 0], []) := by
 obtain ⟨⟨k1, k2⟩, k3, k4⟩ := h.k1
 have hl1 := h.l1
 have hl10 := h.l10
 have hO := open_ok h t
 have hrow := setsN_row (t := t) h
 have hr24 : ∀ r ∈ setsN t hk l, r.length = n ∧ ∀ x ∈ r, x < 2 ^ 24 := fun r hr => ⟨(hrow r hr).1, fun x hx => up24 ((hrow r hr).2 x hx) k2⟩
 have hJ := join_ok (setsN t hk l) n (by simp; exact h.l1) (by simp; omega) (by omega) hr24
 have hkl2 : keys.length = n := by
  unfold keysE at hkl
  split at hkl
  ·cases hkl
  ·rename_i hh; exact Classical.not_not.1 hh
 have hCK := checkKeys_ok n keys (by omega)
 rw [hkl] at hCK
 have hB := both_ok t hk n k2 k3 k4 (upTo S n) (upTo C n) (by simp [upTo]) (by simp [upTo]) (fun x hx => by
  obtain ⟨q, hq, rfl⟩ := List.mem_map.1 hx
  exact hS q (List.mem_range.1 hq)) (fun x hx => by
  obtain ⟨q, hq, rfl⟩ := List.mem_map.1 hx
  exact hC q (List.mem_range.1 hq))
 have hsl : ((setsN t hk l).map listV).length = l.length := by simp
 have tS : ((setsN t hk l).map listV).take l.length = (setsN t hk l).map listV := List.take_of_length_le (by omega)
 have hg0 : (l.map setV)[0]? = some (setV (l.getD 0 ⟨0, []⟩)) := by
  rw [List.getElem?_map, List.getElem?_eq_getElem hl1, List.getD_eq_getElem?_getD, List.getElem?_eq_getElem hl1]
  rfl
 have hgd : l.getD 0 ⟨0, []⟩ = l[0] := by rw [List.getD_eq_getElem?_getD, List.getElem?_eq_getElem hl1]; rfl
 have hh0 : (l.getD 0 ⟨0, []⟩).hk = hk := by rw [hgd]; exact h.hk _ (List.getElem_mem _)
 have hr0 : (natsV (l.getD 0 ⟨0, []⟩).rows).length = n := by rw [hgd]; simp; exact h.rows _ (List.getElem_mem _)
 have hkg : ∀ i, i < n → (keys.map fun k => iv k)[i]? = some (iv (keys.getD i 0)) := fun i hi => by
  rw [List.getElem?_map, List.getElem?_eq_getElem (by omega), List.getD_eq_getElem?_getD, List.getElem?_eq_getElem (by omega)]
  rfl
 have hjn : (joinN (setsN t hk l) n).length = n := by simp
 generalize joinN (setsN t hk l) n = j at *
 have hjg : ∀ i, i < n → (natsV j)[i]? = some (iv ((j.getD i 0 : Nat) : Int)) := fun i hi => nats_at (by omega)
 have n2 : (natsV j).length = n := by simp [hjn]
 have t2 : (natsV j).take n = natsV j := List.take_of_length_le (by omega)
 have P2 := nats_plain j
 have hu1 := upTo_succ S
 have hu2 := upTo_succ C
 have hlS := upTo_len S
 have hlC := upTo_len C
 have hpm : ∀ i, i ≤ n → prodM M i ≤ 1024 := fun i hi => by
  have h1 := prodM_le (M := M) (hk := hk) (i := i) fun q hq => hM q (by omega)
  have h2 : 2 ^ (hk * i) ≤ 2 ^ 10 := Nat.pow_le_pow_right (by omega) (Nat.le_trans (Nat.mul_le_mul_left hk hi) hp)
  omega
 have hps : ∀ i, prodM M (i + 1) = prodM M i * M i := fun i => rfl
 have hpz : ∀ i, i < n → M i = 0 → prodM M n = 0 := fun i hi h0 => by
  have : ∀ d, prodM M (i + 1 + d) = 0 := fun d => by
   induction d with
   | zero => rw [Nat.add_zero, hps, h0, Nat.mul_zero]
   | succ d ih => rw [show i + 1 + (d + 1) = (i + 1 + d) + 1 by omega, hps, ih, Nat.zero_mul]
  have := this (n - (i + 1))
  rw [show i + 1 + (n - (i + 1)) = n by omega] at this
  exact this
 have hM1 : ∀ i, i < n → M i ≤ 1024 := fun i hi => by
  have h1 : hk * 1 ≤ hk * n := Nat.mul_le_mul_left hk k3
  have h2 : 2 ^ hk ≤ 2 ^ 10 := Nat.pow_le_pow_right (by omega) (by omega)
  have := hM i hi
  omega
 unfold openV at hO
 unfold setV at hg0 hO ⊢
 rw [hh0] at hg0
 generalize natsV (l.getD 0 ⟨0, []⟩).rows = r0 at *
 generalize (setsN t hk l).map listV = sr at *
 generalize (l.map fun d => AV.agg [iv (d.hk : Int), .list 1 (natsV d.rows)]) = es at *
 generalize natsV j = jv at *
 have hkn : (keys.map fun k => iv k).length = n := by simp [hkl2]
 generalize (keys.map fun k => iv k) = kv at *
 refine lim_by (fn := a46) (k := 3) (res := [.cell 6 2 true, .cell 7 2 true, .tmp 8, .tmp 9]) rfl rfl rfl (by simp -implicitDefEqProofs (maxSteps := 2000000) (disch := first | exact tt_rfl rfl | omega | (simp only [go_sem] <;> omega) | fail) only [go_sem]) ?_
 try delta mvA
 try delta opA
 try delta tA
 simp -implicitDefEqProofs (maxSteps := 2000000) (disch := first | exact tt_rfl rfl | omega | (simp only [go_sem] <;> omega) | fail) only [go_sem]
 repeat (first | apply Wp.seqA | apply Wp.skipS | apply Wp.blockS | ((first | apply Wp.regS | apply Wp.condV | apply Wp.reg | apply Wp.condW | apply fin_ret); simp -implicitDefEqProofs (maxSteps := 2000000) (disch := first | exact tt_rfl rfl | omega | (simp only [go_sem] <;> omega) | fail) only [go_sem, ite_self, hO, hg0, hr0, hCK, hJ, hsl, tS, n2, t2, P2] <;> try with_reducible rfl) | apply Wp.block | apply Wp.exitS | apply Wp.retS | apply Wp.exit | apply Wp.ret | apply Wp.skip)
 apply Wp.loopF n (fun i => ⟨[(2, .list 1 kv), (6, .ptr 384 0 0), (7, .ptr 448 0 0), (8, iv (prodM M i : Int)), (10, .ptr 640 0 0), (11, .slice 704 0 i), (12, .slice 768 0 i), (38, .slice 2432 0 n), (39, iv (n : Int)), (40, iv (i : Int))], [(384, .box [iv 0, .slice 306145 0 0]), (448, .box [iv 0, .slice 307169 0 0]), (640, .box [iv (hk : Int), .bool t, .slice 310242 0 l.length]), (704, .arr 1 (natsV (upTo S i))), (768, .arr 1 (natsV (upTo C i))), (2432, .arr 1 jv), (306145, .arr 1 []), (307169, .arr 1 []), (310242, .arr 1 sr)], [], 10000000⟩) (fun i => prodM M i ≠ 0)
 ·simp -implicitDefEqProofs (maxSteps := 2000000) (disch := first | exact tt_rfl rfl | omega | (simp only [go_sem] <;> omega) | fail) only [go_sem, norm_eq, Ok.some]
  rfl
 ·unfold prodM; omega
 intro i hi hne
 by_cases h' : i < n
 ·have a1 := hjg i h'
  have a2 := hkg i h'
  have a3 := hcard i h'
  have a4 := hM1 i h'
  have a5 := hpm i hi
  have a6 := hps i
  have a7 := hpz i h'
  have b1 := hlS i
  have b2 := hlC i
  rw [hu1 i, hu2 i, a6]
  clear hM hS hC hcard hjg hkg hM1 hpm hps hpz hu1 hu2 hlS hlC hB hJ hO hCK hg0
  generalize natsV (upTo S i) = LS at *
  generalize natsV (upTo C i) = LC at *
  generalize j.getD i 0 = ji at *
  generalize keys.getD i 0 = ki at *
  by_cases hm0 : M i = 0
  ·rw [a7 hm0, if_pos rfl]
   rw [hm0] at a3
   generalize S i = si at *
   generalize C i = ci at *
   repeat (first | apply Wp.seqA | apply Wp.skipS | apply Wp.blockS | ((first | apply Wp.regS | apply Wp.condV | apply Wp.reg | apply Wp.condW | apply fin_ret); simp -implicitDefEqProofs (maxSteps := 2000000) (disch := first | exact tt_rfl rfl | omega | (simp only [go_sem] <;> omega) | fail) only [go_sem, h', Int.ofNat_lt, a1, a2, a3, n2, hkn, Int.natCast_zero] <;> try with_reducible rfl) | apply Wp.block | apply Wp.exitS | apply Wp.retS | apply Wp.exit | apply Wp.ret | apply Wp.skip)
  ·have d1 : Int.tdiv 1000000000000 ((M i : Nat) : Int) = ((1000000000000 / M i : Nat) : Int) := by
    rw [Int.tdiv_eq_ediv_of_nonneg (by omega)]
    rfl
   have d2 : 1024 ≤ 1000000000000 / M i := by
    rw [Nat.le_div_iff_mul_le (by omega)]
    omega
   have d6 : 1000000000000 / M i ≤ 1000000000000 := Nat.div_le_self _ _
   have d3 : ((prodM M i : Nat) : Int) * ((M i : Nat) : Int) = ((prodM M i * M i : Nat) : Int) := by simp
   have d4 : prodM M i * M i ≤ 1024 * 1024 := Nat.mul_le_mul a5 a4
   have d5 : prodM M i * M i ≠ 0 := Nat.mul_ne_zero hne hm0
   generalize prodM M i * M i = pm' at *
   generalize 1000000000000 / M i = dv at *
   generalize prodM M i = pm at *
   generalize M i = mi at *
   generalize S i = si at *
   generalize C i = ci at *
   repeat (first | apply Wp.seqA | apply Wp.skipS | apply Wp.blockS | ((first | apply Wp.regS | apply Wp.condV | apply Wp.reg | apply Wp.condW | apply fin_ret); simp -implicitDefEqProofs (maxSteps := 2000000) (disch := first | exact tt_rfl rfl | omega | (simp only [go_sem] <;> omega) | fail) only [go_sem, h', Int.ofNat_lt, a1, a2, a3, n2, hkn, d1, d3, b1, b2, show ¬ (mi : Int) = 0 by omega, show ¬ (dv : Int) < pm by omega] <;> try with_reducible rfl) | apply Wp.block | apply Wp.exitS | apply Wp.retS | apply Wp.exit | apply Wp.ret | apply Wp.skip)
   apply round_next
   ·simp -implicitDefEqProofs (maxSteps := 2000000) (disch := first | exact tt_rfl rfl | omega | (simp only [go_sem] <;> omega) | fail) only [go_sem, norm_eq, Ok.some]; with_reducible rfl
   exact ⟨h', by simp, d5⟩
 ·obtain rfl : i = n := by omega
  have b1 := hlS i
  have b2 := hlC i
  have a5 := hpm i hi
  rw [if_neg hne]
  have t3 : (natsV (upTo S i)).take i = natsV (upTo S i) := List.take_of_length_le (by omega)
  have t4 : (natsV (upTo C i)).take i = natsV (upTo C i) := List.take_of_length_le (by omega)
  have P3 := nats_plain (upTo S i)
  have P4 := nats_plain (upTo C i)
  have n5 : (natsV (turnL t hk (if t then upTo C i else upTo S i))).length = i := by cases t <;> simp [upTo]
  have n6 : (natsV (turnL t hk (if t then upTo S i else upTo C i))).length = i := by cases t <;> simp [upTo]
  have t5 : (natsV (turnL t hk (if t then upTo C i else upTo S i))).take i = natsV (turnL t hk (if t then upTo C i else upTo S i)) := List.take_of_length_le (by omega)
  have t6 : (natsV (turnL t hk (if t then upTo S i else upTo C i))).take i = natsV (turnL t hk (if t then upTo S i else upTo C i)) := List.take_of_length_le (by omega)
  have P5 := nats_plain (turnL t hk (if t then upTo C i else upTo S i))
  have P6 := nats_plain (turnL t hk (if t then upTo S i else upTo C i))
  clear hM hS hC hcard hjg hkg hM1 hpm hps hpz hu1 hu2 hlS hlC hJ hO hCK hg0
  generalize natsV (turnL t hk (if t then upTo C i else upTo S i)) = R1 at *
  generalize natsV (turnL t hk (if t then upTo S i else upTo C i)) = R2 at *
  generalize natsV (upTo S i) = LS at *
  generalize natsV (upTo C i) = LC at *
  generalize prodM M i = pm at *
  repeat (first | apply Wp.seqA | apply Wp.skipS | apply Wp.blockS | ((first | apply Wp.regS | apply Wp.condV | apply Wp.reg | apply Wp.condW | apply fin_ret); simp -implicitDefEqProofs (maxSteps := 2000000) (disch := first | exact tt_rfl rfl | omega | (simp only [go_sem] <;> omega) | fail) only [go_sem, Int.lt_irrefl, b1, b2, t3, t4, P3, P4, hB, n5, n6, t5, t6, P5, P6, show ¬ (1000000000000 : Int) < pm by omega] <;> try with_reducible rfl) | apply Wp.block | apply Wp.exitS | apply Wp.retS | apply Wp.exit | apply Wp.ret | apply Wp.skip)
end Go.Abs

set_option linter.all false
namespace Go.Abs
set_option maxRecDepth 10000
set_option maxHeartbeats 4000000

def okM (t : Bool) (hk n : Nat) (l : List DesN) (b k : Nat) : Bool := (l.take k).all fun d => madeB t hk n (setD hk n b) d
theorem okM_succ {t : Bool} {hk n : Nat} {l : List DesN} {b k : Nat} (h : k < l.length) : okM t hk n l b (k + 1) = (okM t hk n l b k && madeB t hk n (setD hk n b) l[k]) := by
 unfold okM
 rw [List.take_succ, List.getElem?_eq_getElem h, List.all_append]
 simp
theorem okM_false {t : Bool} {hk n : Nat} {l : List DesN} {b k : Nat} (hk' : k ≤ l.length) (h : okM t hk n l b k = false) : okM t hk n l b l.length = false := by
 unfold okM at h ⊢
 rw [List.all_eq_false] at h ⊢
 obtain ⟨d, hd, h⟩ := h
 exact ⟨d, by rw [List.take_length]; exact List.mem_of_mem_take hd, h⟩
def keyB (hk : Nat) (keys : List Int) (b i : Nat) : Bool := decide (keys.getD i 0 = -1) || decide (keys.getD i 0 = ((keyN (setRow hk b i) : Nat) : Int))
def okK (hk : Nat) (keys : List Int) (b i : Nat) : Bool := (List.range i).all fun q => keyB hk keys b q
theorem okK_succ (hk : Nat) (keys : List Int) (b i : Nat) : okK hk keys b (i + 1) = (okK hk keys b i && keyB hk keys b i) := by
 unfold okK
 rw [List.range_succ, List.all_append]
 simp
theorem okK_false {hk n : Nat} {keys : List Int} {b i : Nat} (hi : i ≤ n) (h : okK hk keys b i = false) : okK hk keys b n = false := by
 unfold okK at h ⊢
 rw [List.all_eq_false] at h ⊢
 obtain ⟨d, hd, h⟩ := h
 exact ⟨d, List.mem_range.2 (by have := List.mem_range.1 hd; omega), h⟩
def goodR (t : Bool) (hk n : Nat) (l : List DesN) (keys : List Int) (b : Nat) : Bool := okM t hk n l b l.length && okK hk keys b n
theorem refRestore_ok {l : List DesN} {hk n : Nat} (h : SetsOk l hk n) (t : Bool) (keys : List Int) (hkl : keys.length = n) (hp : hk * n ≤ 10) : lim F 47 [iv (wayOf t), .list 2 (l.map setV), .list 1 (keys.map fun k => iv k)] = some (ansV hk n (goodL (goodR t hk n l keys) (2 ^ (hk * n))), []) := by
 obtain ⟨⟨k1, k2⟩, k3, k4⟩ := h.k1
 have hl1 := h.l1
 have hl10 := h.l10
 have hSet := fun b hb => Set_ok hk n b k1 (by omega) hb
 have hM := fun b k (hk' : k < l.length) => refMade_ok (h.set (List.getElem_mem hk') b) t
 have hS := fun b k (hk' : k < l.length) => okM_succ (t := t) (hk := hk) (n := n) (b := b) hk'
 have hgj : ∀ k, k < l.length → (l.map setV)[k]? = some (setV (l.getD k ⟨0, []⟩)) := fun k hk' => by
  rw [List.getElem?_map, List.getElem?_eq_getElem hk', List.getD_eq_getElem?_getD, List.getElem?_eq_getElem hk']
  rfl
 have hgd : ∀ k (hk' : k < l.length), l.getD k ⟨0, []⟩ = l[k] := fun k hk' => by
  rw [List.getD_eq_getElem?_getD, List.getElem?_eq_getElem hk']; rfl
 have hg0 := hgj 0 hl1
 have hh0 : (l.getD 0 ⟨0, []⟩).hk = hk := by rw [hgd 0 hl1]; exact h.hk _ (List.getElem_mem _)
 have hr0 : (natsV (l.getD 0 ⟨0, []⟩).rows).length = n := by rw [hgd 0 hl1]; simp; exact h.rows _ (List.getElem_mem _)
 have hln : (l.map setV).length = l.length := by simp
 have hkg : ∀ i, i < n → (keys.map fun k => iv k)[i]? = some (iv (keys.getD i 0)) := fun i hi => by
  rw [List.getElem?_map, List.getElem?_eq_getElem (by omega), List.getD_eq_getElem?_getD, List.getElem?_eq_getElem (by omega)]
  rfl
 have hkn : (keys.map fun k => iv k).length = n := by simp [hkl]
 unfold setV at *
 rw [hh0] at hg0
 generalize natsV (l.getD 0 ⟨0, []⟩).rows = r0 at *
 have m2 : (hk : Int) * (n : Int) = ((hk * n : Nat) : Int) := by simp
 have u1 : IntKind.wrap .u64 ((hk * n : Nat) : Int) = (hk * n : Nat) := wrap_u64 (by omega) (by omega)
 have s1 := w_shl1 (hk * n) (by omega)
 have hpw : 2 ^ (hk * n) ≤ 2 ^ 10 := Nat.pow_le_pow_right (by omega) hp
 generalize hes : (l.map fun d => AV.agg [iv (d.hk : Int), .list 1 (natsV d.rows)]) = es at *
 generalize (keys.map fun k => iv k) = kv at *
 generalize hpn : hk * n = p at *
 refine lim_by (fn := a47) (k := 3) (res := [.cell 6 5 true]) rfl rfl rfl (by simp -implicitDefEqProofs (maxSteps := 2000000) (disch := first | exact tt_rfl rfl | omega | (simp only [go_sem] <;> omega) | fail) only [go_sem]) ?_
 try delta mvA
 try delta opA
 try delta tA
 simp -implicitDefEqProofs (maxSteps := 2000000) (disch := first | exact tt_rfl rfl | omega | (simp only [go_sem] <;> omega) | fail) only [go_sem]
 repeat (first | apply Wp.seqA | apply Wp.skipS | apply Wp.blockS | ((first | apply Wp.regS | apply Wp.condV | apply Wp.reg | apply Wp.condW | apply fin_ret); simp -implicitDefEqProofs (maxSteps := 2000000) (disch := first | exact tt_rfl rfl | omega | (simp only [go_sem] <;> omega) | fail) only [go_sem, hg0, hr0, hln, hl1] <;> try with_reducible rfl) | apply Wp.block | apply Wp.exitS | apply Wp.retS | apply Wp.exit | apply Wp.ret | apply Wp.skip)
 apply Wp.loopF (2 ^ p) (fun b => ⟨[(0, iv (wayOf t)), (1, .list 2 es), (2, .list 1 kv), (6, .ptr 384 0 0), (7, .ptr 448 0 0), (8, iv (hk : Int)), (9, iv (n : Int)), (10, iv (b : Int))], [(384, .box [iv 0, .slice 306145 0 0, iv 0, .slice 306147 0 0, iv 0]), (448, .box [iv ((hkG hk (goodL (goodR t hk n l keys) b) : Nat) : Int), .slice 307169 0 (nG n (goodL (goodR t hk n l keys) b)), iv ((hkG hk (goodL (goodR t hk n l keys) b) : Nat) : Int), .slice 307171 0 (nG n (goodL (goodR t hk n l keys) b)), iv ((goodL (goodR t hk n l keys) b).length : Int)]), (306145, .arr 1 []), (306147, .arr 1 []), (307169, .arr 1 (natsV (sureG hk n (goodL (goodR t hk n l keys) b)))), (307171, .arr 1 (natsV (canG hk n (goodL (goodR t hk n l keys) b))))], [], 10000000⟩) (fun _ => True)
 ·simp -implicitDefEqProofs (maxSteps := 2000000) (disch := first | exact tt_rfl rfl | omega | (simp only [go_sem] <;> omega) | fail) only [go_sem, norm_eq, Ok.some]
  rfl
 ·trivial
 intro b hb _
 have hGl := goodL_len (goodR t hk n l keys) b
 have hGs := goodL_succ (goodR t hk n l keys) b
 generalize hG : goodL (goodR t hk n l keys) b = G at *
 have q1 : (natsV (sureG hk n G)).length = nG n G := by simp [sureG_len]
 have q2 : (natsV (canG hk n G)).length = nG n G := by simp [canG_len]
 have q3 := nats_plain (sureG hk n G)
 have q4 := nats_plain (canG hk n G)
 have q5 : (natsV (sureG hk n G)).take (nG n G) = natsV (sureG hk n G) := List.take_of_length_le (by omega)
 have q6 : (natsV (canG hk n G)).take (nG n G) = natsV (canG hk n G) := List.take_of_length_le (by omega)
 by_cases h' : b < 2 ^ p
 ·have hset := hSet b h'
  have hA := Add_ok (hkG hk G : Nat) (sureG hk n G) (canG hk n G) G.length hk n (setD hk n b).rows (by simp [setD, upTo]) k4 k2 (by omega) (fun hpos => by
   have : G ≠ [] := List.length_pos_iff.1 hpos
   rw [sureG_len, canG_len]
   unfold nG
   rw [if_neg this]
   exact ⟨rfl, rfl⟩) (fun i hi => ⟨by
   rw [setD_at hi]
   exact up24 (setRow_lt _ _ _) k2, sureG_lt _ _ _ k2, canG_lt _ _ _ k2⟩)
  rw [addS_eq, addC_eq] at hA
  have d1 : (natsV (setD hk n b).rows).length = n := by simp [setD, upTo]
  have d2 := nats_plain (setD hk n b).rows
  have d3 : (natsV (setD hk n b).rows).take n = natsV (setD hk n b).rows := List.take_of_length_le (by omega)
  have dg : ∀ i, i < n → (natsV (setD hk n b).rows)[i]? = some (iv ((setRow hk b i : Nat) : Int)) := fun i hi => by
   rw [nats_at (by simp [setD, upTo]; exact hi), setD_at hi]
  have hRK := fun i => refKey_ok (setRow hk b i) (up24 (setRow_lt _ _ _) k2)
  have hMb := fun k (hk' : k < l.length) => hM b k hk'
  have hSb := fun k (hk' : k < l.length) => hS b k hk'
  have r1 : (natsV (sureG hk n (G ++ [b]))).length = n := by simp [sureG_len, nG]
  have r2 : (natsV (canG hk n (G ++ [b]))).length = n := by simp [canG_len, nG]
  have r3 := nats_plain (sureG hk n (G ++ [b]))
  have r4 := nats_plain (canG hk n (G ++ [b]))
  have r5 : (natsV (sureG hk n (G ++ [b]))).take n = natsV (sureG hk n (G ++ [b])) := List.take_of_length_le (by omega)
  have r6 : (natsV (canG hk n (G ++ [b]))).take n = natsV (canG hk n (G ++ [b])) := List.take_of_length_le (by omega)
  have g1 : hkG hk (G ++ [b]) = hk := if_neg (by simp)
  have g2 : nG n (G ++ [b]) = n := if_neg (by simp)
  have g3 : (G ++ [b]).length = G.length + 1 := by simp
  have hno := fun k (hk' : k ≤ l.length) => okM_false (t := t) (hk := hk) (n := n) (b := b) hk'
  have hno2 := fun i (hi : i ≤ n) => okK_false (hk := hk) (keys := keys) (b := b) hi
  have hml := fun k (hk' : k < l.length) => madeN_le t hk n (setD hk n b) l[k]
  have hkK := okK_succ hk keys b
  rw [hGs]
  clear hM hS hSet
  have hdh : (setD hk n b).hk = hk := rfl
  simp only [hdh] at hMb
  generalize natsV (setD hk n b).rows = dv at *
  generalize hsv : natsV (sureG hk n G) = sv at *
  generalize hcv : natsV (canG hk n G) = cv at *
  repeat (first | apply Wp.seqA | apply Wp.skipS | apply Wp.blockS | ((first | apply Wp.regS | apply Wp.condV | apply Wp.reg | apply Wp.condW | apply fin_ret); simp -implicitDefEqProofs (maxSteps := 2000000) (disch := first | exact tt_rfl rfl | omega | (simp only [go_sem] <;> omega) | fail) only [go_sem, h', Int.ofNat_lt, m2, u1, s1, Int.toNat_natCast, hset, d1, d2, d3] <;> try with_reducible rfl) | apply Wp.block | apply Wp.exitS | apply Wp.retS | apply Wp.exit | apply Wp.ret | apply Wp.skip)
  apply Wp.loopF l.length (fun k => ⟨[(0, iv (wayOf t)), (1, .list 2 es), (2, .list 1 kv), (6, .ptr 384 0 0), (7, .ptr 448 0 0), (8, iv (hk : Int)), (9, iv (n : Int)), (10, iv (b : Int)), (11, .ptr 704 0 0), (12, .bool (okM t hk n l b k)), (13, iv (k : Int))], [(384, .box [iv 0, .slice 306145 0 0, iv 0, .slice 306147 0 0, iv 0]), (448, .box [iv ((hkG hk G : Nat) : Int), .slice 307169 0 (nG n G), iv ((hkG hk G : Nat) : Int), .slice 307171 0 (nG n G), iv (G.length : Int)]), (704, .box [iv (hk : Int), .slice 311265 0 n]), (306145, .arr 1 []), (306147, .arr 1 []), (307169, .arr 1 sv), (307171, .arr 1 cv), (311265, .arr 1 dv)], [], 10000000⟩) (fun _ => True)
  ·simp -implicitDefEqProofs (maxSteps := 2000000) (disch := first | exact tt_rfl rfl | omega | (simp only [go_sem] <;> omega) | fail) only [go_sem, norm_eq, Ok.some]
   rfl
  ·trivial
  intro k hk' _
  by_cases hgo : k < l.length ∧ okM t hk n l b k = true
  ·obtain ⟨h2, hok⟩ := hgo
   have a1 := hgj k h2
   have a2 := hMb k h2
   have a3 := hSb k h2
   have a4 := hml k h2
   rw [hgd k h2] at a1
   rw [a3, hok]
   clear hMb hSb hml hno hno2 hgj hgd hg0 hA hset hRK dg hkK hkg
   generalize madeB t hk n (setD hk n b) l[k] = mb at *
   generalize madeN t hk n (setD hk n b) l[k] = mn at *
   generalize natsV l[k].rows = rk at *
   generalize l[k].hk = hk2 at *
   repeat (first | apply Wp.seqA | apply Wp.skipS | apply Wp.blockS | ((first | apply Wp.regS | apply Wp.condV | apply Wp.reg | apply Wp.condW | apply fin_ret); simp -implicitDefEqProofs (maxSteps := 2000000) (disch := first | exact tt_rfl rfl | omega | (simp only [go_sem] <;> omega) | fail) only [go_sem, h2, Int.ofNat_lt, hln, a1, a2, d1, d2, d3, hok, decide_true, decide_false] <;> try with_reducible rfl) | apply Wp.block | apply Wp.exitS | apply Wp.retS | apply Wp.exit | apply Wp.ret | apply Wp.skip)
   apply round_next
   ·simp -implicitDefEqProofs (maxSteps := 2000000) (disch := first | exact tt_rfl rfl | omega | (simp only [go_sem] <;> omega) | fail) only [go_sem, norm_eq, Ok.some]; with_reducible rfl
   exact ⟨h2, by simp, trivial⟩
  ·have hx : okM t hk n l b k = okM t hk n l b l.length ∧ (k < l.length → okM t hk n l b l.length = false) := by
    by_cases h2 : k < l.length
    ·have h3 : okM t hk n l b k = false := by
      cases hc : okM t hk n l b k
      ·rfl
      ·exact absurd ⟨h2, hc⟩ hgo
     have h4 := hno k hk' h3
     rw [h3, h4]
     exact ⟨rfl, fun _ => rfl⟩
    ·have h4 : k = l.length := by omega
     rw [h4]
     exact ⟨rfl, fun h5 => absurd h5 (Nat.lt_irrefl _)⟩
   rw [hx.1]
   have hx2 := hx.2
   clear hMb hSb hml hno hgj hgd hg0 hset hx hgo
   unfold goodR at hGs ⊢
   generalize okM t hk n l b l.length = om at *
   repeat (first | apply Wp.seqA | apply Wp.skipS | apply Wp.blockS | ((first | apply Wp.regS | apply Wp.condV | apply Wp.reg | apply Wp.condW | apply fin_ret); simp -implicitDefEqProofs (maxSteps := 2000000) (disch := first | exact tt_rfl rfl | omega | (simp only [go_sem] <;> omega) | fail) only [go_sem, hln] <;> try with_reducible rfl) | apply Wp.block | apply Wp.exitS | apply Wp.retS | apply Wp.exit | apply Wp.ret | apply Wp.skip)
   ·refine (?_ : _ = some (⟨[(0, iv (wayOf t)), (1, .list 2 es), (2, .list 1 kv), (6, .ptr 384 0 0), (7, .ptr 448 0 0), (8, iv (hk : Int)), (9, iv (n : Int)), (10, iv (b : Int)), (11, .ptr 704 0 0), (12, .bool om), (13, iv (k : Int)), (44, .bool false)], [(384, .box [iv 0, .slice 306145 0 0, iv 0, .slice 306147 0 0, iv 0]), (448, .box [iv ((hkG hk G : Nat) : Int), .slice 307169 0 (nG n G), iv ((hkG hk G : Nat) : Int), .slice 307171 0 (nG n G), iv (G.length : Int)]), (704, .box [iv (hk : Int), .slice 311265 0 n]), (306145, .arr 1 []), (306147, .arr 1 []), (307169, .arr 1 sv), (307171, .arr 1 cv), (311265, .arr 1 dv)], [], 10000224⟩ : Fr))
    by_cases h2 : k < l.length
    ·have h3 := hx2 h2
     simp -implicitDefEqProofs (maxSteps := 2000000) (disch := first | exact tt_rfl rfl | omega | (simp only [go_sem] <;> omega) | fail) only [go_sem, h3, decide_eq_true (show (k : Int) < l.length by omega)]
    ·simp -implicitDefEqProofs (maxSteps := 2000000) (disch := first | exact tt_rfl rfl | omega | (simp only [go_sem] <;> omega) | fail) only [go_sem, decide_eq_false (show ¬ (k : Int) < l.length by omega)]
   repeat (first | apply Wp.seqA | apply Wp.skipS | apply Wp.blockS | ((first | apply Wp.regS | apply Wp.condV | apply Wp.reg | apply Wp.condW | apply fin_ret); simp -implicitDefEqProofs (maxSteps := 2000000) (disch := first | exact tt_rfl rfl | omega | (simp only [go_sem] <;> omega) | fail) only [go_sem] <;> try with_reducible rfl) | apply Wp.block | apply Wp.exitS | apply Wp.retS | apply Wp.exit | apply Wp.ret | apply Wp.skip)
   apply Wp.loopF n (fun i => ⟨[(0, iv (wayOf t)), (1, .list 2 es), (2, .list 1 kv), (6, .ptr 384 0 0), (7, .ptr 448 0 0), (8, iv (hk : Int)), (9, iv (n : Int)), (10, iv (b : Int)), (11, .ptr 704 0 0), (12, .bool (om && okK hk keys b i)), (14, iv (i : Int))], [(384, .box [iv 0, .slice 306145 0 0, iv 0, .slice 306147 0 0, iv 0]), (448, .box [iv ((hkG hk G : Nat) : Int), .slice 307169 0 (nG n G), iv ((hkG hk G : Nat) : Int), .slice 307171 0 (nG n G), iv (G.length : Int)]), (704, .box [iv (hk : Int), .slice 311265 0 n]), (306145, .arr 1 []), (306147, .arr 1 []), (307169, .arr 1 sv), (307171, .arr 1 cv), (311265, .arr 1 dv)], [], 10000000⟩) (fun _ => True)
   ·simp -implicitDefEqProofs (maxSteps := 2000000) (disch := first | exact tt_rfl rfl | omega | (simp only [go_sem] <;> omega) | fail) only [go_sem, norm_eq, Ok.some]
    simp [okK]
   ·trivial
   intro i hi _
   by_cases hgo : i < n ∧ (om && okK hk keys b i) = true
   ·obtain ⟨h2, hok⟩ := hgo
    have a1 := hkg i h2
    have a2 := dg i h2
    have a3 := hRK i
    have a4 := hkK i
    have a5 : keyB hk keys b i = (decide (keys.getD i 0 = -1) || decide (keys.getD i 0 = ((keyN (setRow hk b i) : Nat) : Int))) := rfl
    rw [a4, ← Bool.and_assoc, hok, a5]
    clear hno2 hA hRK dg hkK hkg
    generalize keys.getD i 0 = ki at *
    generalize keyN (setRow hk b i) = kx at *
    generalize setRow hk b i = rx at *
    by_cases e1 : ki = -1
    ·repeat (first | apply Wp.seqA | apply Wp.skipS | apply Wp.blockS | ((first | apply Wp.regS | apply Wp.condV | apply Wp.reg | apply Wp.condW | apply fin_ret); simp -implicitDefEqProofs (maxSteps := 2000000) (disch := first | exact tt_rfl rfl | omega | (simp only [go_sem] <;> omega) | fail) only [go_sem, h2, Int.ofNat_lt, hkn, a1, a2, a3, d1, hok, e1, decide_true, decide_false] <;> try with_reducible rfl) | apply Wp.block | apply Wp.exitS | apply Wp.retS | apply Wp.exit | apply Wp.ret | apply Wp.skip)
     apply round_next
     ·simp -implicitDefEqProofs (maxSteps := 2000000) (disch := first | exact tt_rfl rfl | omega | (simp only [go_sem] <;> omega) | fail) only [go_sem, norm_eq, Ok.some]; with_reducible rfl
     exact ⟨h2, by simp [e1], trivial⟩
    ·by_cases e2 : ki = (kx : Int)
     ·repeat (first | apply Wp.seqA | apply Wp.skipS | apply Wp.blockS | ((first | apply Wp.regS | apply Wp.condV | apply Wp.reg | apply Wp.condW | apply fin_ret); simp -implicitDefEqProofs (maxSteps := 2000000) (disch := first | exact tt_rfl rfl | omega | (simp only [go_sem] <;> omega) | fail) only [go_sem, h2, Int.ofNat_lt, hkn, a1, a2, a3, d1, hok, e1, e2, decide_true, decide_false] <;> try with_reducible rfl) | apply Wp.block | apply Wp.exitS | apply Wp.retS | apply Wp.exit | apply Wp.ret | apply Wp.skip)
      apply round_next
      ·simp -implicitDefEqProofs (maxSteps := 2000000) (disch := first | exact tt_rfl rfl | omega | (simp only [go_sem] <;> omega) | fail) only [go_sem, norm_eq, Ok.some]; with_reducible rfl
      exact ⟨h2, by simp [e2], trivial⟩
     ·repeat (first | apply Wp.seqA | apply Wp.skipS | apply Wp.blockS | ((first | apply Wp.regS | apply Wp.condV | apply Wp.reg | apply Wp.condW | apply fin_ret); simp -implicitDefEqProofs (maxSteps := 2000000) (disch := first | exact tt_rfl rfl | omega | (simp only [go_sem] <;> omega) | fail) only [go_sem, h2, Int.ofNat_lt, hkn, a1, a2, a3, d1, hok, e1, e2, decide_true, decide_false] <;> try with_reducible rfl) | apply Wp.block | apply Wp.exitS | apply Wp.retS | apply Wp.exit | apply Wp.ret | apply Wp.skip)
      apply round_next
      ·simp -implicitDefEqProofs (maxSteps := 2000000) (disch := first | exact tt_rfl rfl | omega | (simp only [go_sem] <;> omega) | fail) only [go_sem, norm_eq, Ok.some]; with_reducible rfl
      exact ⟨h2, by simp [e1, e2], trivial⟩
   ·have hx : (om && okK hk keys b i) = (om && okK hk keys b n) ∧ (i < n → (om && okK hk keys b n) = false) := by
     by_cases h2 : i < n
     ·have h3 : (om && okK hk keys b i) = false := by
       cases hc : (om && okK hk keys b i)
       ·rfl
       ·exact absurd ⟨h2, hc⟩ hgo
      have h4 : (om && okK hk keys b n) = false := by
       rw [Bool.and_eq_false_iff] at h3 ⊢
       exact h3.imp id (hno2 i hi)
      rw [h3, h4]
      exact ⟨rfl, fun _ => rfl⟩
     ·have h4 : i = n := by omega
      rw [h4]
      exact ⟨rfl, fun h5 => absurd h5 (Nat.lt_irrefl _)⟩
    rw [hx.1]
    have hx2 := hx.2
    clear hno2 hx hgo hRK dg hkK hkg
    generalize (om && okK hk keys b n) = gd at *
    repeat (first | apply Wp.seqA | apply Wp.skipS | apply Wp.blockS | ((first | apply Wp.regS | apply Wp.condV | apply Wp.reg | apply Wp.condW | apply fin_ret); simp -implicitDefEqProofs (maxSteps := 2000000) (disch := first | exact tt_rfl rfl | omega | (simp only [go_sem] <;> omega) | fail) only [go_sem] <;> try with_reducible rfl) | apply Wp.block | apply Wp.exitS | apply Wp.retS | apply Wp.exit | apply Wp.ret | apply Wp.skip)
    ·refine (?_ : _ = some (⟨[(0, iv (wayOf t)), (1, .list 2 es), (2, .list 1 kv), (6, .ptr 384 0 0), (7, .ptr 448 0 0), (8, iv (hk : Int)), (9, iv (n : Int)), (10, iv (b : Int)), (11, .ptr 704 0 0), (12, .bool gd), (14, iv (i : Int)), (62, .bool false)], [(384, .box [iv 0, .slice 306145 0 0, iv 0, .slice 306147 0 0, iv 0]), (448, .box [iv ((hkG hk G : Nat) : Int), .slice 307169 0 (nG n G), iv ((hkG hk G : Nat) : Int), .slice 307171 0 (nG n G), iv (G.length : Int)]), (704, .box [iv (hk : Int), .slice 311265 0 n]), (306145, .arr 1 []), (306147, .arr 1 []), (307169, .arr 1 sv), (307171, .arr 1 cv), (311265, .arr 1 dv)], [], 10000192⟩ : Fr))
     by_cases h2 : i < n
     ·have h3 := hx2 h2
      simp -implicitDefEqProofs (maxSteps := 2000000) (disch := first | exact tt_rfl rfl | omega | (simp only [go_sem] <;> omega) | fail) only [go_sem, h3, decide_eq_true (show (i : Int) < n by omega)]
     ·simp -implicitDefEqProofs (maxSteps := 2000000) (disch := first | exact tt_rfl rfl | omega | (simp only [go_sem] <;> omega) | fail) only [go_sem, decide_eq_false (show ¬ (i : Int) < n by omega)]
    cases gd
    ·simp only [Bool.false_eq_true, if_false]
     clear hA
     repeat (first | apply Wp.seqA | apply Wp.skipS | apply Wp.blockS | ((first | apply Wp.regS | apply Wp.condV | apply Wp.reg | apply Wp.condW | apply fin_ret); simp -implicitDefEqProofs (maxSteps := 2000000) (disch := first | exact tt_rfl rfl | omega | (simp only [go_sem] <;> omega) | fail) only [go_sem] <;> try with_reducible rfl) | apply Wp.block | apply Wp.exitS | apply Wp.retS | apply Wp.exit | apply Wp.ret | apply Wp.skip)
     apply round_next
     ·simp -implicitDefEqProofs (maxSteps := 2000000) (disch := first | exact tt_rfl rfl | omega | (simp only [go_sem] <;> omega) | fail) only [go_sem, norm_eq, Ok.some]; with_reducible rfl
     exact ⟨h', by simp [hsv, hcv], trivial⟩
    ·rw [if_pos rfl, g1, g2, g3]
     generalize natsV (sureG hk n (G ++ [b])) = sv2 at *
     generalize natsV (canG hk n (G ++ [b])) = cv2 at *
     repeat (first | apply Wp.seqA | apply Wp.skipS | apply Wp.blockS | ((first | apply Wp.regS | apply Wp.condV | apply Wp.reg | apply Wp.condW | apply fin_ret); simp -implicitDefEqProofs (maxSteps := 2000000) (disch := first | exact tt_rfl rfl | omega | (simp only [go_sem] <;> omega) | fail) only [go_sem, q1, q2, q3, q4, q5, q6, d1, d2, d3, hA, r1, r2, r3, r4, r5, r6] <;> try with_reducible rfl) | apply Wp.block | apply Wp.exitS | apply Wp.retS | apply Wp.exit | apply Wp.ret | apply Wp.skip)
     apply round_next
     ·simp -implicitDefEqProofs (maxSteps := 2000000) (disch := first | exact tt_rfl rfl | omega | (simp only [go_sem] <;> omega) | fail) only [go_sem, norm_eq, Ok.some]; with_reducible rfl
     exact ⟨h', by simp, trivial⟩
 ·obtain rfl : b = 2 ^ p := by omega
  rw [hG]
  unfold ansV
  generalize natsV (sureG hk n G) = sv at *
  generalize natsV (canG hk n G) = cv at *
  repeat (first | apply Wp.seqA | apply Wp.skipS | apply Wp.blockS | ((first | apply Wp.regS | apply Wp.condV | apply Wp.reg | apply Wp.condW | apply fin_ret); simp -implicitDefEqProofs (maxSteps := 2000000) (disch := first | exact tt_rfl rfl | omega | (simp only [go_sem] <;> omega) | fail) only [go_sem, Int.lt_irrefl, m2, u1, s1, Int.toNat_natCast, q1, q2, q3, q4, q5, q6] <;> try with_reducible rfl) | apply Wp.block | apply Wp.exitS | apply Wp.retS | apply Wp.exit | apply Wp.ret | apply Wp.skip)
end Go.Abs

set_option linter.all false
namespace Go.Abs
set_option maxRecDepth 10000

theorem cnt_mul {A : Nat} {p q r : Nat → Bool} : ∀ B, (∀ hi lo, hi < B → lo < A → p (A * hi + lo) = (q hi && r lo)) → ((List.range (A * B)).filter p).length = ((List.range B).filter q).length * ((List.range A).filter r).length
 | 0, _ => by simp
 | B + 1, h => by
  have ih := cnt_mul B fun hi lo h1 h2 => h hi lo (by omega) h2
  rw [Nat.mul_succ, List.range_add, List.filter_append, List.length_append, ih, List.filter_map, List.length_map]
  rw [filter_len_congr (p := p ∘ (A * B + ·)) (q := fun x => q B && r x) (fun x hx => h B x (by omega) (List.mem_range.1 hx))]
  rw [List.range_succ, List.filter_append, List.length_append, Nat.add_mul]
  congr 1
  cases hq : q B
  ·simp [hq]
  ·simp [hq]
/-- all rows of a set are of some kind -/
def allR (hk : Nat) (P : Nat → Nat → Bool) (n b : Nat) : Bool := (List.range n).all fun i => P i (setRow hk b i)
theorem setRow_eq {hk b i y : Nat} (hy : y < 2 ^ hk) (h : ∀ q, q < hk → b.testBit (i * hk + q) = y.testBit q) : setRow hk b i = y := by
 apply Nat.eq_of_testBit_eq
 intro q
 by_cases hq : q < hk
 ·rw [setRow_bit hq, h q hq]
 ·have h1 : 2 ^ hk ≤ 2 ^ q := Nat.pow_le_pow_right (by omega) (by omega)
  rw [Nat.testBit_lt_two_pow (Nat.lt_of_lt_of_le (setRow_lt hk b i) h1), Nat.testBit_lt_two_pow (Nat.lt_of_lt_of_le hy h1)]
theorem allR_count (hk : Nat) (P : Nat → Nat → Bool) : ∀ n, ((List.range (2 ^ (hk * n))).filter (allR hk P n)).length = prodM (fun i => ((List.range (2 ^ hk)).filter (P i)).length) n
 | 0 => by
  have e : allR hk P 0 = fun _ => true := by
   funext b
   simp [allR]
  rw [e]
  simp [prodM]
 | n + 1 => by
  have ih := allR_count hk P n
  rw [Nat.mul_succ, Nat.pow_add]
  rw [cnt_mul (q := P n) (r := allR hk P n) (2 ^ hk) ?_]
  ·unfold prodM
   rw [ih, Nat.mul_comm]
  ·intro hi lo h1 h2
   have hb : ∀ j, (2 ^ (hk * n) * hi + lo).testBit j = if j < hk * n then lo.testBit j else hi.testBit (j - hk * n) := fun j => Nat.testBit_two_pow_mul_add _ h2 _
   have e1 : setRow hk (2 ^ (hk * n) * hi + lo) n = hi := setRow_eq h1 fun q hq => by
    rw [hb, if_neg (by rw [Nat.mul_comm n hk]; omega)]
    congr 1
    rw [Nat.mul_comm n hk]; omega
   have e2 : ∀ i, i < n → setRow hk (2 ^ (hk * n) * hi + lo) i = setRow hk lo i := fun i hi' => setRow_eq (setRow_lt _ _ _) fun q hq => by
    rw [hb, if_pos (lt_flat hi' hq), setRow_bit hq]
   unfold allR
   rw [List.range_succ, List.all_append]
   simp only [List.all_cons, List.all_nil, Bool.and_true]
   rw [e1, Bool.and_comm]
   congr 1
   apply Bool.eq_iff_iff.2
   rw [List.all_eq_true, List.all_eq_true]
   constructor
   ·intro h i hi'
    rw [← e2 i (List.mem_range.1 hi')]
    exact h i hi'
   ·intro h i hi'
    rw [e2 i (List.mem_range.1 hi')]
    exact h i hi'
/-- the number whose rows are these -/
def flatN (hk n : Nat) (Y : Nat → Nat) : Nat := rowTo (fun q => (Y (q / hk)).testBit (q % hk)) (hk * n)
theorem flatN_row {hk n : Nat} {Y : Nat → Nat} {i : Nat} (hi : i < n) (hY : Y i < 2 ^ hk) : setRow hk (flatN hk n Y) i = Y i := by
 refine setRow_eq hY fun q hq => ?_
 unfold flatN
 rw [rowTo_bit, decide_eq_true (lt_flat hi hq), Bool.true_and]
 have e1 : (i * hk + q) / hk = i := by
  rw [Nat.add_comm, Nat.add_mul_div_right _ _ (by omega), Nat.div_eq_of_lt hq, Nat.zero_add]
 have e2 : (i * hk + q) % hk = q := by
  rw [Nat.add_comm, Nat.add_mul_mod_self_right, Nat.mod_eq_of_lt hq]
 rw [e1, e2]
theorem prodM_pos {M : Nat → Nat} : ∀ {n : Nat}, prodM M n ≠ 0 → ∀ i, i < n → M i ≠ 0
 | 0, _, i, hi => by omega
 | n + 1, h, i, hi => by
  unfold prodM at h
  by_cases e : i = n
  ·subst e
   exact fun h0 => h (by rw [h0, Nat.mul_zero])
  ·exact prodM_pos (n := n) (fun h0 => h (by rw [h0, Nat.zero_mul])) i (by omega)
/-- what a set can be, what its rows can be -/
theorem rows_of {hk n : Nat} {P : Nat → Nat → Bool} (hne : prodM (fun i => ((List.range (2 ^ hk)).filter (P i)).length) n ≠ 0) {i : Nat} (hi : i < n) (x : Nat) : (∃ b ∈ goodL (allR hk P n) (2 ^ (hk * n)), setRow hk b i = x) ↔ x ∈ (List.range (2 ^ hk)).filter (P i) := by
 constructor
 ·rintro ⟨b, hb, rfl⟩
  have := (List.mem_filter.1 hb).2
  unfold allR at this
  rw [List.all_eq_true] at this
  exact List.mem_filter.2 ⟨List.mem_range.2 (setRow_lt _ _ _), this i (List.mem_range.2 hi)⟩
 ·intro hx
  have hpos := prodM_pos hne
  have hex : ∀ j, ∃ y, j < n → y ∈ (List.range (2 ^ hk)).filter (P j) := fun j => by
   by_cases hj : j < n
   ·have h1 := hpos j hj
    have h2 : (List.range (2 ^ hk)).filter (P j) ≠ [] := fun h0 => h1 (by rw [h0]; rfl)
    obtain ⟨y, hy⟩ := List.exists_mem_of_ne_nil _ h2
    exact ⟨y, fun _ => hy⟩
   ·exact ⟨0, fun h => absurd h hj⟩
  have hY : ∀ j, j < n → (if j = i then x else (hex j).choose) ∈ (List.range (2 ^ hk)).filter (P j) := fun j hj => by
   by_cases e : j = i
   ·subst e; rw [if_pos rfl]; exact hx
   ·rw [if_neg e]; exact (hex j).choose_spec hj
  have hr : ∀ j, j < n → setRow hk (flatN hk n fun j => if j = i then x else (hex j).choose) j = if j = i then x else (hex j).choose := fun j hj => flatN_row hj (List.mem_range.1 (List.mem_filter.1 (hY j hj)).1)
  refine ⟨flatN hk n fun j => if j = i then x else (hex j).choose, List.mem_filter.2 ⟨List.mem_range.2 (rowTo_lt _ _), ?_⟩, ?_⟩
  ·unfold allR
   rw [List.all_eq_true]
   intro j hj
   rw [List.mem_range] at hj
   rw [hr j hj]
   exact (List.mem_filter.1 (hY j hj)).2
  ·rw [hr i hi, if_pos rfl]
theorem keyB_eq (hk : Nat) (keys : List Int) (b i : Nat) : keyB hk keys b i = (decide (keys.getD i 0 = -1) || decide (((keyN (setRow hk b i) : Nat) : Int) = keys.getD i 0)) := by
 unfold keyB
 congr 1
 exact decide_eq_decide.2 ⟨Eq.symm, Eq.symm⟩
theorem goodR_all {l : List DesN} {hk n : Nat} (h : SetsOk l hk n) (t : Bool) (keys : List Int) (b : Nat) : goodR t hk n l keys b = allR hk (fun i => rowP t hk ((joinN (setsN t hk l) n).getD i 0) (keys.getD i 0)) n b := by
 obtain ⟨⟨k1, k2⟩, k3, k4⟩ := h.k1
 have hsl : (setsN t hk l).length = l.length := by simp
 have hsg := fun k (hk' : k < l.length) => setsN_get (t := t) (hk := hk) hk'
 have hjlt : ∀ i, i < n → (joinN (setsN t hk l) n).getD i 0 < 2 ^ hk := fun i hi => by
  rw [rows_get (by simp; omega)]
  obtain ⟨q, hq, e⟩ := List.mem_map.1 (List.getElem_mem (l := joinN (setsN t hk l) n) (n := i) (by simp; omega))
  rw [← e]
  exact joinAt_lt (setsN_row h) (List.mem_range.1 hq)
 have hX : ∀ i, i < n → ∀ q, q < hk → (atR (turnL t hk (setD hk n b).rows) i).testBit q = ((setRow hk b i).testBit q ^^ t) := fun i hi q hq => by
  unfold atR
  rw [turnL_at _ _ _ (by simp [setD, upTo]; exact hi), setD_at hi, turnR_bit hq]
 have hsub := @sub_join (setsN t hk l) n (turnL t hk (setD hk n b).rows)
 have hok : okM t hk n l b l.length = true ↔ subB (turnL t hk (setD hk n b).rows) (joinN (setsN t hk l) n) n = true := by
  rw [← hsub]
  unfold okM
  rw [List.take_length, List.all_eq_true]
  constructor
  ·intro hh k hk'
   have := hh _ (List.getElem_mem (show k < l.length by omega))
   unfold madeB at this
   rw [hsg k (by omega)]
   exact this
  ·intro hh d hd
   obtain ⟨k, hk', rfl⟩ := List.getElem_of_mem hd
   have := hh k (by omega)
   rw [hsg k hk'] at this
   exact this
 unfold goodR allR okK
 apply Bool.eq_iff_iff.2
 rw [Bool.and_eq_true, hok, subB_iff, List.all_eq_true, List.all_eq_true]
 constructor
 ·rintro ⟨h1, h2⟩ i hi
  have hi' := List.mem_range.1 hi
  unfold rowP
  rw [Bool.and_eq_true]
  refine ⟨betX_iff.2 fun q hq => ⟨fun hj => ?_, fun _ => full_bit hq⟩, by rw [← keyB_eq]; exact h2 i hi⟩
  rw [← hX i hi' q hq]
  exact h1 i hi' q hj
 ·intro h1
  refine ⟨fun i hi q hq => ?_, fun i hi => ?_⟩
  ·have := h1 i (List.mem_range.2 hi)
   unfold rowP at this
   rw [Bool.and_eq_true] at this
   by_cases hqk : q < hk
   ·rw [hX i hi q hqk]
    exact (betX_iff.1 this.1 q hqk).1 hq
   ·have hz : (atR (joinN (setsN t hk l) n) i).testBit q = false := Nat.testBit_lt_two_pow (Nat.lt_of_lt_of_le (hjlt i hi) (Nat.pow_le_pow_right (by omega) (by omega)))
    rw [hz] at hq
    cases hq
  ·have := h1 i hi
   unfold rowP at this
   rw [Bool.and_eq_true] at this
   rw [keyB_eq]
   exact this.2
/-- what a set surely and possibly has, card by card -/
theorem restore_eq {l : List DesN} {hk n : Nat} (h : SetsOk l hk n) (t : Bool) (keys : List Int) (S C M : Nat → Nat) (hc : ∀ i, i < n → CardOk t hk ((joinN (setsN t hk l) n).getD i 0) (keys.getD i 0) (S i) (C i) (M i)) :
  (goodL (goodR t hk n l keys) (2 ^ (hk * n))).length = prodM M n ∧ (prodM M n ≠ 0 →
   sureG hk n (goodL (goodR t hk n l keys) (2 ^ (hk * n))) = turnL t hk (if t then upTo C n else upTo S n) ∧
   canG hk n (goodL (goodR t hk n l keys) (2 ^ (hk * n))) = turnL t hk (if t then upTo S n else upTo C n)) := by
 have hfun : goodR t hk n l keys = allR hk (fun i => rowP t hk ((joinN (setsN t hk l) n).getD i 0) (keys.getD i 0)) n := by
  funext b
  exact goodR_all h t keys b
 rw [hfun]
 have hpe : ∀ m, m ≤ n → prodM (fun i => ((List.range (2 ^ hk)).filter (rowP t hk ((joinN (setsN t hk l) n).getD i 0) (keys.getD i 0))).length) m = prodM M m := by
  intro m
  induction m with
  | zero => intro _; rfl
  | succ m ih =>
   intro hm
   unfold prodM
   rw [ih (by omega), (hc m (by omega)).m]
   rfl
 have hcnt := allR_count hk (fun i => rowP t hk ((joinN (setsN t hk l) n).getD i 0) (keys.getD i 0)) n
 rw [hpe n (Nat.le_refl _)] at hcnt
 refine ⟨hcnt, fun hne => ?_⟩
 have hrow := fun i (hi : i < n) x => rows_of (P := fun i => rowP t hk ((joinN (setsN t hk l) n).getD i 0) (keys.getD i 0)) (by rw [hpe n (Nat.le_refl _)]; exact hne) hi x
 have hGne : goodL (allR hk (fun i => rowP t hk ((joinN (setsN t hk l) n).getD i 0) (keys.getD i 0)) n) (2 ^ (hk * n)) ≠ [] := fun h0 => by
  have : (goodL (allR hk (fun i => rowP t hk ((joinN (setsN t hk l) n).getD i 0) (keys.getD i 0)) n) (2 ^ (hk * n))).length = prodM M n := hcnt
  rw [h0] at this
  exact hne this.symm
 have hT : ∀ i, i < n → rowsT t hk ((joinN (setsN t hk l) n).getD i 0) (keys.getD i 0) ≠ [] := fun i hi h0 => by
  have := prodM_pos hne i hi
  rw [(hc i hi).m, h0] at this
  exact this rfl
 generalize goodL (allR hk (fun i => rowP t hk ((joinN (setsN t hk l) n).getD i 0) (keys.getD i 0)) n) (2 ^ (hk * n)) = G at *
 have e1 : sureG hk n G = upTo (fun i => andA (G.map fun x => setRow hk x i)) n := if_neg hGne
 have e2 : canG hk n G = upTo (fun i => orAll (G.map fun x => setRow hk x i)) n := if_neg hGne
 have hgt : ∀ {x h : Nat}, x < 2 ^ hk → hk ≤ h → x.testBit h = false := fun hx hh => Nat.testBit_lt_two_pow (Nat.lt_of_lt_of_le hx (Nat.pow_le_pow_right (by omega) hh))
 have hall : ∀ i, i < n → ∀ q, q < hk → (andA (G.map fun x => setRow hk x i)).testBit q = (rowsT t hk ((joinN (setsN t hk l) n).getD i 0) (keys.getD i 0)).all fun x => x.testBit q := fun i hi q hq => by
  rw [andA_bit (by simpa using hGne)]
  apply Bool.eq_iff_iff.2
  rw [List.all_eq_true, List.all_eq_true]
  constructor
  ·intro hh x hx
   obtain ⟨b, hb, rfl⟩ := (hrow i hi x).2 hx
   exact hh _ (List.mem_map.2 ⟨b, hb, rfl⟩)
  ·intro hh x hx
   obtain ⟨b, hb, rfl⟩ := List.mem_map.1 hx
   exact hh _ ((hrow i hi _).1 ⟨b, hb, rfl⟩)
 have hany : ∀ i, i < n → ∀ q, q < hk → (orAll (G.map fun x => setRow hk x i)).testBit q = (rowsT t hk ((joinN (setsN t hk l) n).getD i 0) (keys.getD i 0)).any fun x => x.testBit q := fun i hi q hq => by
  rw [orAll_bit]
  apply Bool.eq_iff_iff.2
  rw [List.any_eq_true, List.any_eq_true]
  constructor
  ·rintro ⟨x, hx, hb⟩
   obtain ⟨b, hb2, rfl⟩ := List.mem_map.1 hx
   exact ⟨_, (hrow i hi _).1 ⟨b, hb2, rfl⟩, hb⟩
  ·rintro ⟨x, hx, hb⟩
   obtain ⟨b, hb2, rfl⟩ := (hrow i hi x).2 hx
   exact ⟨_, List.mem_map.2 ⟨b, hb2, rfl⟩, hb⟩
 have hlen : ∀ f : Nat → Nat, (upTo f n).length = n := fun f => by simp [upTo]
 have nall : ∀ (T : List Nat) q, (T.all fun x => x.testBit q) = !(T.any fun x => x.testBit q ^^ true) := fun T q => by
  induction T with
  | nil => rfl
  | cons x T ih => simp [ih]
 have nany : ∀ (T : List Nat) q, (T.any fun x => x.testBit q) = !(T.all fun x => x.testBit q ^^ true) := fun T q => by
  induction T with
  | nil => rfl
  | cons x T ih => simp [ih]
 rw [e1, e2]
 constructor
 ·refine lists_eq (by cases t <;> simp [hlen]) fun i hi => ?_
  have hci := hc i hi
  have hb := hci.b (hT i hi)
  have ha := hall i hi
  rw [turnL_at _ _ _ (by cases t <;> simp [hlen] <;> exact hi)]
  have eg : (if t = true then upTo C n else upTo S n).getD i 0 = if t = true then C i else S i := by
   cases t
   ·exact upTo_at S hi
   ·exact upTo_at C hi
  rw [eg]
  have hlt : (if t = true then C i else S i) < 2 ^ hk := by
   cases t
   ·exact hci.s
   ·exact hci.c
  apply Nat.eq_of_testBit_eq
  intro q
  by_cases hq : q < hk
  ·rw [ha q hq, turnR_bit hq]
   obtain ⟨b1, b2⟩ := hb q hq
   cases t
   ·simp only [Bool.false_eq_true, if_false, Bool.xor_false] at b1 ⊢
    exact b1.symm
   ·simp only [if_true]
    rw [b2, nall, Bool.xor_true]
  ·rw [hgt (andA_lt fun r hr => by
    obtain ⟨x, _, rfl⟩ := List.mem_map.1 hr
    exact setRow_lt _ _ _) (by omega), hgt (turnR_lt hlt) (by omega)]
 ·refine lists_eq (by cases t <;> simp [hlen]) fun i hi => ?_
  have hci := hc i hi
  have hb := hci.b (hT i hi)
  have ha := hany i hi
  rw [turnL_at _ _ _ (by cases t <;> simp [hlen] <;> exact hi)]
  have eg : (if t = true then upTo S n else upTo C n).getD i 0 = if t = true then S i else C i := by
   cases t
   ·exact upTo_at C hi
   ·exact upTo_at S hi
  rw [eg]
  have hlt : (if t = true then S i else C i) < 2 ^ hk := by
   cases t
   ·exact hci.c
   ·exact hci.s
  apply Nat.eq_of_testBit_eq
  intro q
  by_cases hq : q < hk
  ·rw [ha q hq, turnR_bit hq]
   obtain ⟨b1, b2⟩ := hb q hq
   cases t
   ·simp only [Bool.false_eq_true, if_false, Bool.xor_false] at b2 ⊢
    exact b2.symm
   ·simp only [if_true]
    rw [b1, nany, Bool.xor_true]
  ·rw [hgt (orAll_lt fun r hr => by
    obtain ⟨x, _, rfl⟩ := List.mem_map.1 hr
    exact setRow_lt _ _ _) (by omega), hgt (turnR_lt hlt) (by omega)]
end Go.Abs
