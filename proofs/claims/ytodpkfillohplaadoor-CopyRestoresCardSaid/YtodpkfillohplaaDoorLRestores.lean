/-
 CopyRestores: what the original can be by the keys, and how many sets that are, are what the document says.
-/
import Derived.Test.YtodpkfillohplaaDoorY10
import Derived.Test.YtodpkfillohplaaDoorX9
set_option linter.all false
namespace Go.Abs
set_option maxRecDepth 10000
set_option maxHeartbeats 8000000

theorem wayE_split2 {l : List DesA} {w : Int} (he : wayE w l = 0) : ∃ (t : Bool) (ns : List DesN) (hk n : Nat), w = wayOf t ∧ SetsOk ns hk n ∧ l = ns.map DesN.a := by
 have hc : checkS l = 0 := by
  unfold wayE at he
  split at he
  ·rename_i h; exact absurd he h
  ·rename_i h; exact Classical.not_not.1 h
 have hw : ∃ t, w = wayOf t := by
  unfold wayE at he
  rw [if_neg (by simpa using hc)] at he
  split at he
  ·rename_i h
   rcases h with rfl | rfl
   ·exact ⟨false, rfl⟩
   ·exact ⟨true, rfl⟩
  ·cases he
 obtain ⟨t, rfl⟩ := hw
 obtain ⟨ns, hk, n, hS, rfl⟩ := checkS_zero hc
 exact ⟨t, ns, hk, n, rfl, hS, rfl⟩
theorem points_any (l : List DesA) (hl : l.length ≤ 12) (hr : ∀ d ∈ l, d.rows.length ≤ 65) : ∃ p : Nat, lim F 38 [.list 2 (l.map DesA.av)] = some (iv (p : Int), []) := by
 by_cases hc : checkS l = 0
 ·obtain ⟨ns, hk, n, hS, rfl⟩ := checkS_zero hc
  rw [sets_av]
  exact ⟨_, points_ok hS⟩
 ·have hC := refCheckS_ok l (by omega) (fun d hd => by have := hr d hd; omega)
  refine ⟨0, ?_⟩
  generalize checkS l = c at *
  generalize l.map DesA.av = es at *
  refine lim_by (fn := a38) (k := 1) (res := [.tmp 2]) rfl rfl rfl (by simp -implicitDefEqProofs (maxSteps := 2000000) (disch := first | exact tt_rfl rfl | omega | (simp only [go_sem] <;> omega) | fail) only [go_sem]) ?_
  try delta mvA
  try delta opA
  try delta tA
  simp -implicitDefEqProofs (maxSteps := 2000000) (disch := first | exact tt_rfl rfl | omega | (simp only [go_sem] <;> omega) | fail) only [go_sem]
  repeat (first | apply Wp.seqA | apply Wp.skipS | apply Wp.blockS | ((first | apply Wp.regS | apply Wp.condV | apply Wp.reg | apply Wp.condW | apply fin_ret); simp -implicitDefEqProofs (maxSteps := 2000000) (disch := first | exact tt_rfl rfl | omega | (simp only [go_sem] <;> omega) | fail) only [go_sem, hC, hc, Int.natCast_zero] <;> try with_reducible rfl) | apply Wp.block | apply Wp.exitS | apply Wp.retS | apply Wp.exit | apply Wp.ret | apply Wp.skip)
theorem Restore_bad (l : List DesA) (hl : l.length ≤ 1000) (hr : ∀ d ∈ l, d.rows.length ≤ 1000000) (w : Int) (kv : List AV) (he : wayE w l ≠ 0) : lim F 46 [iv w, .list 2 (l.map DesA.av), .list 1 kv] = some (.tuple [.agg [iv 0, .own 1 []], .agg [iv 0, .own 1 []], iv 0, iv (wayE w l)], []) := by
 have hO := open_bad l hl hr w he
 generalize l.map DesA.av = es at *
 generalize wayE w l = e at *
 refine lim_by (fn := a46) (k := 3) (res := [.cell 6 2 true, .cell 7 2 true, .tmp 8, .tmp 9]) rfl rfl rfl (by simp -implicitDefEqProofs (maxSteps := 2000000) (disch := first | exact tt_rfl rfl | omega | (simp only [go_sem] <;> omega) | fail) only [go_sem]) ?_
 try delta mvA
 try delta opA
 try delta tA
 simp -implicitDefEqProofs (maxSteps := 2000000) (disch := first | exact tt_rfl rfl | omega | (simp only [go_sem] <;> omega) | fail) only [go_sem]
 repeat (first | apply Wp.seqA | apply Wp.skipS | apply Wp.blockS | ((first | apply Wp.regS | apply Wp.condV | apply Wp.reg | apply Wp.condW | apply fin_ret); simp -implicitDefEqProofs (maxSteps := 2000000) (disch := first | exact tt_rfl rfl | omega | (simp only [go_sem] <;> omega) | fail) only [go_sem, hO, he] <;> try with_reducible rfl) | apply Wp.block | apply Wp.exitS | apply Wp.retS | apply Wp.exit | apply Wp.ret | apply Wp.skip)
theorem Restore_keys {l : List DesN} {hk n : Nat} (h : SetsOk l hk n) (t : Bool) (keys : List Int) (hl : keys.length ≤ 1000000) (hkl : keysE n keys ≠ 0) : lim F 46 [iv (wayOf t), .list 2 (l.map setV), .list 1 (keys.map fun k => iv k)] = some (.tuple [.agg [iv 0, .own 1 []], .agg [iv 0, .own 1 []], iv 0, iv (keysE n keys)], []) := by
 have hl1 := h.l1
 have hO := open_ok h t
 have hCK := checkKeys_ok n keys hl
 have hsl : ((setsN t hk l).map listV).length = l.length := by simp
 have tS : ((setsN t hk l).map listV).take l.length = (setsN t hk l).map listV := List.take_of_length_le (by omega)
 have hg0 : (l.map setV)[0]? = some (setV (l.getD 0 ⟨0, []⟩)) := by
  rw [List.getElem?_map, List.getElem?_eq_getElem hl1, List.getD_eq_getElem?_getD, List.getElem?_eq_getElem hl1]
  rfl
 have hgd : l.getD 0 ⟨0, []⟩ = l[0] := by rw [List.getD_eq_getElem?_getD, List.getElem?_eq_getElem hl1]; rfl
 have hr0 : (natsV (l.getD 0 ⟨0, []⟩).rows).length = n := by rw [hgd]; simp; exact h.rows _ (List.getElem_mem _)
 unfold openV at hO
 unfold setV at hg0 hO ⊢
 generalize natsV (l.getD 0 ⟨0, []⟩).rows = r0 at *
 generalize (setsN t hk l).map listV = sr at *
 generalize (l.map fun d => AV.agg [iv (d.hk : Int), .list 1 (natsV d.rows)]) = es at *
 generalize (keys.map fun k => iv k) = kv at *
 generalize keysE n keys = e at *
 refine lim_by (fn := a46) (k := 3) (res := [.cell 6 2 true, .cell 7 2 true, .tmp 8, .tmp 9]) rfl rfl rfl (by simp -implicitDefEqProofs (maxSteps := 2000000) (disch := first | exact tt_rfl rfl | omega | (simp only [go_sem] <;> omega) | fail) only [go_sem]) ?_
 try delta mvA
 try delta opA
 try delta tA
 simp -implicitDefEqProofs (maxSteps := 2000000) (disch := first | exact tt_rfl rfl | omega | (simp only [go_sem] <;> omega) | fail) only [go_sem]
 repeat (first | apply Wp.seqA | apply Wp.skipS | apply Wp.blockS | ((first | apply Wp.regS | apply Wp.condV | apply Wp.reg | apply Wp.condW | apply fin_ret); simp -implicitDefEqProofs (maxSteps := 2000000) (disch := first | exact tt_rfl rfl | omega | (simp only [go_sem] <;> omega) | fail) only [go_sem, ite_self, hO, hg0, hr0, hCK, hsl, tS, hkl] <;> try with_reducible rfl) | apply Wp.block | apply Wp.exitS | apply Wp.retS | apply Wp.exit | apply Wp.ret | apply Wp.skip)
theorem restores_main (kn : lim F 14 [] = some (.bool true, [])) (w : Int) (l : List DesA) (keys : List Int) : lim F 7 [iv w, .list 2 (l.map DesA.av), .list 1 (keys.map fun k => iv k)] = some (.bool true, []) := by
 have hL := long_ok l
 by_cases hlong : longT l = true
 ·rw [hlong] at hL
  generalize l.map DesA.av = es at *
  generalize (keys.map fun k => iv k) = kv at *
  refine lim_by (fn := a7) (k := 3) (res := [.tmp 6]) rfl rfl rfl (by simp -implicitDefEqProofs (maxSteps := 2000000) (disch := first | exact tt_rfl rfl | omega | (simp only [go_sem] <;> omega) | fail) only [go_sem]) ?_
  try delta mvA
  try delta opA
  try delta tA
  simp -implicitDefEqProofs (maxSteps := 2000000) (disch := first | exact tt_rfl rfl | omega | (simp only [go_sem] <;> omega) | fail) only [go_sem]
  repeat (first | apply Wp.seqA | apply Wp.skipS | apply Wp.blockS | ((first | apply Wp.regS | apply Wp.condV | apply Wp.reg | apply Wp.condW | apply fin_ret); simp -implicitDefEqProofs (maxSteps := 2000000) (disch := first | exact tt_rfl rfl | omega | (simp only [go_sem] <;> omega) | fail) only [go_sem, hL, kn] <;> try with_reducible rfl) | apply Wp.block | apply Wp.exitS | apply Wp.retS | apply Wp.exit | apply Wp.ret | apply Wp.skip)
 have hlong : longT l = false := by simpa using hlong
 obtain ⟨hl, hr⟩ := longT_no hlong
 rw [hlong] at hL
 have hkn : (keys.map fun k => iv k).length = keys.length := by simp
 by_cases hk65 : 65 < keys.length
 ·generalize l.map DesA.av = es at *
  generalize (keys.map fun k => iv k) = kv at *
  refine lim_by (fn := a7) (k := 3) (res := [.tmp 6]) rfl rfl rfl (by simp -implicitDefEqProofs (maxSteps := 2000000) (disch := first | exact tt_rfl rfl | omega | (simp only [go_sem] <;> omega) | fail) only [go_sem]) ?_
  try delta mvA
  try delta opA
  try delta tA
  simp -implicitDefEqProofs (maxSteps := 2000000) (disch := first | exact tt_rfl rfl | omega | (simp only [go_sem] <;> omega) | fail) only [go_sem]
  repeat (first | apply Wp.seqA | apply Wp.skipS | apply Wp.blockS | ((first | apply Wp.regS | apply Wp.condV | apply Wp.reg | apply Wp.condW | apply fin_ret); simp -implicitDefEqProofs (maxSteps := 2000000) (disch := first | exact tt_rfl rfl | omega | (simp only [go_sem] <;> omega) | fail) only [go_sem, hL, kn, hkn, show (65 : Int) < (keys.length : Nat) by omega] <;> try with_reducible rfl) | apply Wp.block | apply Wp.exitS | apply Wp.retS | apply Wp.exit | apply Wp.ret | apply Wp.skip)
 have hr' : ∀ d ∈ l, d.rows.length ≤ 1000 := fun d hd => by have := hr d hd; omega
 have hr6 : ∀ d ∈ l, d.rows.length ≤ 1000000 := fun d hd => by have := hr d hd; omega
 obtain ⟨p, hP⟩ := points_any l hl hr
 by_cases hp : 10 < p
 ·generalize l.map DesA.av = es at *
  generalize (keys.map fun k => iv k) = kv at *
  refine lim_by (fn := a7) (k := 3) (res := [.tmp 6]) rfl rfl rfl (by simp -implicitDefEqProofs (maxSteps := 2000000) (disch := first | exact tt_rfl rfl | omega | (simp only [go_sem] <;> omega) | fail) only [go_sem]) ?_
  try delta mvA
  try delta opA
  try delta tA
  simp -implicitDefEqProofs (maxSteps := 2000000) (disch := first | exact tt_rfl rfl | omega | (simp only [go_sem] <;> omega) | fail) only [go_sem]
  repeat (first | apply Wp.seqA | apply Wp.skipS | apply Wp.blockS | ((first | apply Wp.regS | apply Wp.condV | apply Wp.reg | apply Wp.condW | apply fin_ret); simp -implicitDefEqProofs (maxSteps := 2000000) (disch := first | exact tt_rfl rfl | omega | (simp only [go_sem] <;> omega) | fail) only [go_sem, hL, kn, hkn, hP, show ¬ (65 : Int) < (keys.length : Nat) by omega, show (10 : Int) < p by omega] <;> try with_reducible rfl) | apply Wp.block | apply Wp.exitS | apply Wp.retS | apply Wp.exit | apply Wp.ret | apply Wp.skip)
 have ho := own_ok l (by omega) hr'
 have hRW := refWay_ok w l (by omega) hr6
 have hA := Alike_same l (by omega) hr'
 have hi := ints_ok keys (by omega)
 have hI := Ints_ok keys keys (by omega)
 rw [decide_eq_true rfl] at hI
 have hN0 : lim F 21 [.agg [iv 0, .list 1 []]] = some (.bool true, []) := none_ok 0 []
 have hpl : (keys.map fun k => iv k).all AV.plain = true := by
  rw [List.all_eq_true]
  intro x hx
  obtain ⟨k, _, rfl⟩ := List.mem_map.1 hx
  rfl
 have hkt : (keys.map fun k => iv k).take keys.length = keys.map fun k => iv k := List.take_of_length_le (by omega)
 have hln : (l.map DesA.av).length = l.length := by simp
 have tl : (l.map DesA.av).take l.length = l.map DesA.av := List.take_of_length_le (by omega)
 have k65 : ¬ (65 : Int) < (keys.length : Nat) := by omega
 have p10 : ¬ (10 : Int) < p := by omega
 by_cases he : wayE w l = 0
 ·rw [he] at hRW
  obtain ⟨t, ns, hk, n, rfl, hS, rfl⟩ := wayE_split2 he
  rw [sets_av] at *
  obtain ⟨⟨k1, k2⟩, k3, k4⟩ := hS.k1
  have hl1 := hS.l1
  have hpe : p = hk * n := by
   have h1 := points_ok hS
   rw [hP] at h1
   simp only [Option.some.injEq, Prod.mk.injEq, AV.int.injEq, and_true, true_and] at h1
   omega
  have hg0 : (ns.map setV)[0]? = some (setV (ns.getD 0 ⟨0, []⟩)) := by
   rw [List.getElem?_map, List.getElem?_eq_getElem hl1, List.getD_eq_getElem?_getD, List.getElem?_eq_getElem hl1]
   rfl
  have hgd : ns.getD 0 ⟨0, []⟩ = ns[0] := by rw [List.getD_eq_getElem?_getD, List.getElem?_eq_getElem hl1]; rfl
  have hr0 : (natsV (ns.getD 0 ⟨0, []⟩).rows).length = n := by rw [hgd]; simp; exact hS.rows _ (List.getElem_mem _)
  have hKE := ref12Keys_ok ((ns.getD 0 ⟨0, []⟩).hk : Nat) (natsV (ns.getD 0 ⟨0, []⟩).rows) keys (by omega) (by omega)
  rw [hr0] at hKE
  by_cases hke : keysE n keys = 0
  ·rw [hke] at hKE
   have hkl2 : keys.length = n := by
    unfold keysE at hke
    split at hke
    ·cases hke
    ·rename_i hh; exact Classical.not_not.1 hh
   have hkb : ∀ i, i < n → -1 ≤ keys.getD i 0 ∧ keys.getD i 0 ≤ 27624 := fun i hi2 => by
    unfold keysE at hke
    rw [if_neg (by simpa using hkl2)] at hke
    split at hke
    ·rename_i hh
     rw [List.all_eq_true] at hh
     have := hh (keys.getD i 0) (by
      rw [List.getD_eq_getElem?_getD, List.getElem?_eq_getElem (by omega)]
      exact List.getElem_mem _)
     exact of_decide_eq_true this
    ·cases hke
   have hk10 : hk ≤ 10 := by
    have : hk * 1 ≤ hk * n := Nat.mul_le_mul_left hk k3
    omega
   have hjlt : ∀ i, i < n → (joinN (setsN t hk ns) n).getD i 0 < 2 ^ hk := fun i hi2 => by
    rw [rows_get (by simp; omega)]
    obtain ⟨q, hq, e⟩ := List.mem_map.1 (List.getElem_mem (l := joinN (setsN t hk ns) n) (n := i) (by simp; omega))
    rw [← e]
    exact joinAt_lt (setsN_row hS) (List.mem_range.1 hq)
   have hcex : ∀ i, ∃ S C M : Nat, i < n → M ≤ 2 ^ hk ∧ CardOk t hk ((joinN (setsN t hk ns) n).getD i 0) (keys.getD i 0) S C M ∧ lim F 78 [.agg [iv (hk : Int), .bool t], iv (((joinN (setsN t hk ns) n).getD i 0 : Nat) : Int), iv (keys.getD i 0)] = some (.agg [iv (S : Int), iv (C : Int), iv (M : Int)], []) := fun i => by
    by_cases hi2 : i < n
    ·obtain ⟨S, C, M, h1⟩ := card_ok t hk _ (keys.getD i 0) k2 hk10 (hkb i hi2).1 (hkb i hi2).2 (hjlt i hi2)
     exact ⟨S, C, M, fun _ => h1⟩
    ·exact ⟨0, 0, 0, fun h => absurd h hi2⟩
   have hsk := fun i (hi2 : i < n) => (hcex i).choose_spec.choose_spec.choose_spec hi2
   generalize hSf : (fun i => (hcex i).choose) = Sf at *
   generalize hCf : (fun i => (hcex i).choose_spec.choose) = Cf at *
   generalize hMf : (fun i => (hcex i).choose_spec.choose_spec.choose) = Mf at *
   have hsk2 : ∀ i, i < n → Mf i ≤ 2 ^ hk ∧ CardOk t hk ((joinN (setsN t hk ns) n).getD i 0) (keys.getD i 0) (Sf i) (Cf i) (Mf i) ∧ lim F 78 [.agg [iv (hk : Int), .bool t], iv (((joinN (setsN t hk ns) n).getD i 0 : Nat) : Int), iv (keys.getD i 0)] = some (.agg [iv (Sf i : Int), iv (Cf i : Int), iv (Mf i : Int)], []) := fun i hi2 => by
    rw [← hSf, ← hCf, ← hMf]
    exact hsk i hi2
   clear hsk hSf hCf hMf hcex
   have hRe := Restore_walk hS t keys hke (by omega) Sf Cf Mf (fun i hi2 => (hsk2 i hi2).1) (fun i hi2 => (hsk2 i hi2).2.1.s) (fun i hi2 => (hsk2 i hi2).2.1.c) (fun i hi2 => (hsk2 i hi2).2.2)
   have hRR := refRestore_ok hS t keys hkl2 (by omega)
   obtain ⟨c1, c2⟩ := restore_eq hS t keys Sf Cf Mf fun i hi2 => (hsk2 i hi2).2.1
   have hpl2 := prodM_le (M := Mf) (hk := hk) (i := n) fun q hq => (hsk2 q hq).1
   have hp1024 : 2 ^ (hk * n) ≤ 2 ^ 10 := Nat.pow_le_pow_right (by omega) (by omega)
   unfold ansV at hRR
   rw [c1] at hRR
   by_cases hz : prodM Mf n = 0
   ·rw [if_pos hz] at hRe
    have hG : goodL (goodR t hk n ns keys) (2 ^ (hk * n)) = [] := List.eq_nil_of_length_eq_zero (by rw [c1, hz])
    rw [hG, hz] at hRR
    have e1 : hkG hk [] = 0 := rfl
    have e2 : sureG hk n [] = [] := rfl
    have e3 : canG hk n [] = [] := rfl
    have e4 : natsV [] = [] := rfl
    rw [e1, e2, e3, e4] at hRR
    clear c2 hsk2 hpl2
    unfold setV at *
    generalize (ns.getD 0 ⟨0, []⟩).hk = h0 at *
    generalize natsV (ns.getD 0 ⟨0, []⟩).rows = r0 at *
    generalize (ns.map fun d => AV.agg [iv (d.hk : Int), .list 1 (natsV d.rows)]) = es at *
    generalize (keys.map fun k => iv k) = kv at *
    simp only [List.length_map] at hln tl
    refine lim_by (fn := a7) (k := 3) (res := [.tmp 6]) rfl rfl rfl (by simp -implicitDefEqProofs (maxSteps := 2000000) (disch := first | exact tt_rfl rfl | omega | (simp only [go_sem] <;> omega) | fail) only [go_sem]) ?_
    try delta mvA
    try delta opA
    try delta tA
    simp -implicitDefEqProofs (maxSteps := 2000000) (disch := first | exact tt_rfl rfl | omega | (simp only [go_sem] <;> omega) | fail) only [go_sem]
    repeat (first | apply Wp.seqA | apply Wp.skipS | apply Wp.blockS | ((first | apply Wp.regS | apply Wp.condV | apply Wp.reg | apply Wp.condW | apply fin_ret); simp -implicitDefEqProofs (maxSteps := 2000000) (disch := first | exact tt_rfl rfl | omega | (simp only [go_sem] <;> omega) | fail) only [go_sem, hL, hkn, hP, k65, p10, ho, hi, hpl, hkt, hln, tl, hRe, hA, hI, hRW, hg0, hKE, hRR, hN0, kn, ite_self, decide_true, decide_false, Int.natCast_zero] <;> try with_reducible rfl) | apply Wp.block | apply Wp.exitS | apply Wp.retS | apply Wp.exit | apply Wp.ret | apply Wp.skip)
   ·rw [if_neg hz] at hRe
    obtain ⟨c3, c4⟩ := c2 hz
    have hG : goodL (goodR t hk n ns keys) (2 ^ (hk * n)) ≠ [] := fun h0 => by
     rw [h0] at c1
     exact hz c1.symm
    have e1 : hkG hk (goodL (goodR t hk n ns keys) (2 ^ (hk * n))) = hk := if_neg hG
    rw [e1, c3, c4] at hRR
    have q1 : (turnL t hk (if t then upTo Cf n else upTo Sf n)).length = n := by cases t <;> simp [upTo]
    have q2 : (turnL t hk (if t then upTo Sf n else upTo Cf n)).length = n := by cases t <;> simp [upTo]
    have hS1 := same_self hk (turnL t hk (if t then upTo Cf n else upTo Sf n)) (by omega)
    have hS2 := same_self hk (turnL t hk (if t then upTo Sf n else upTo Cf n)) (by omega)
    have n1 : (natsV (turnL t hk (if t then upTo Cf n else upTo Sf n))).length = n := by simpa using q1
    have n2 : (natsV (turnL t hk (if t then upTo Sf n else upTo Cf n))).length = n := by simpa using q2
    have P1 := nats_plain (turnL t hk (if t then upTo Cf n else upTo Sf n))
    have P2 := nats_plain (turnL t hk (if t then upTo Sf n else upTo Cf n))
    have t1 : (natsV (turnL t hk (if t then upTo Cf n else upTo Sf n))).take n = natsV (turnL t hk (if t then upTo Cf n else upTo Sf n)) := List.take_of_length_le (by omega)
    have t2 : (natsV (turnL t hk (if t then upTo Sf n else upTo Cf n))).take n = natsV (turnL t hk (if t then upTo Sf n else upTo Cf n)) := List.take_of_length_le (by omega)
    clear c2 hsk2 c3 c4 q1 q2
    unfold setV at *
    generalize natsV (turnL t hk (if t then upTo Cf n else upTo Sf n)) = R1 at *
    generalize natsV (turnL t hk (if t then upTo Sf n else upTo Cf n)) = R2 at *
    generalize (ns.getD 0 ⟨0, []⟩).hk = h0 at *
    generalize natsV (ns.getD 0 ⟨0, []⟩).rows = r0 at *
    generalize (ns.map fun d => AV.agg [iv (d.hk : Int), .list 1 (natsV d.rows)]) = es at *
    generalize (keys.map fun k => iv k) = kv at *
    simp only [List.length_map] at hln tl
    generalize prodM Mf n = pm at *
    refine lim_by (fn := a7) (k := 3) (res := [.tmp 6]) rfl rfl rfl (by simp -implicitDefEqProofs (maxSteps := 2000000) (disch := first | exact tt_rfl rfl | omega | (simp only [go_sem] <;> omega) | fail) only [go_sem]) ?_
    try delta mvA
    try delta opA
    try delta tA
    simp -implicitDefEqProofs (maxSteps := 2000000) (disch := first | exact tt_rfl rfl | omega | (simp only [go_sem] <;> omega) | fail) only [go_sem]
    repeat (first | apply Wp.seqA | apply Wp.skipS | apply Wp.blockS | ((first | apply Wp.regS | apply Wp.condV | apply Wp.reg | apply Wp.condW | apply fin_ret); simp -implicitDefEqProofs (maxSteps := 2000000) (disch := first | exact tt_rfl rfl | omega | (simp only [go_sem] <;> omega) | fail) only [go_sem, hL, hkn, hP, k65, p10, ho, hi, hpl, hkt, hln, tl, hRe, hA, hI, hRW, hg0, hKE, hRR, hS1, hS2, n1, n2, P1, P2, t1, t2, kn, ite_self, decide_true, decide_false, show (0 : Int) < pm by omega] <;> try with_reducible rfl) | apply Wp.block | apply Wp.exitS | apply Wp.retS | apply Wp.exit | apply Wp.ret | apply Wp.skip)
  ·have hRe := Restore_keys hS t keys (by omega) hke
   unfold setV at *
   generalize keysE n keys = e at *
   generalize (ns.getD 0 ⟨0, []⟩).hk = h0 at *
   generalize natsV (ns.getD 0 ⟨0, []⟩).rows = r0 at *
   generalize (ns.map fun d => AV.agg [iv (d.hk : Int), .list 1 (natsV d.rows)]) = es at *
   generalize (keys.map fun k => iv k) = kv at *
   simp only [List.length_map] at hln tl
   refine lim_by (fn := a7) (k := 3) (res := [.tmp 6]) rfl rfl rfl (by simp -implicitDefEqProofs (maxSteps := 2000000) (disch := first | exact tt_rfl rfl | omega | (simp only [go_sem] <;> omega) | fail) only [go_sem]) ?_
   try delta mvA
   try delta opA
   try delta tA
   simp -implicitDefEqProofs (maxSteps := 2000000) (disch := first | exact tt_rfl rfl | omega | (simp only [go_sem] <;> omega) | fail) only [go_sem]
   repeat (first | apply Wp.seqA | apply Wp.skipS | apply Wp.blockS | ((first | apply Wp.regS | apply Wp.condV | apply Wp.reg | apply Wp.condW | apply fin_ret); simp -implicitDefEqProofs (maxSteps := 2000000) (disch := first | exact tt_rfl rfl | omega | (simp only [go_sem] <;> omega) | fail) only [go_sem, hL, hkn, hP, k65, p10, ho, hi, hpl, hkt, hln, tl, hRe, hA, hI, hRW, hg0, hKE, hke, hN0, kn, ite_self, decide_true, decide_false] <;> try with_reducible rfl) | apply Wp.block | apply Wp.exitS | apply Wp.retS | apply Wp.exit | apply Wp.ret | apply Wp.skip)
 ·have hRe := Restore_bad l (by omega) hr6 w (keys.map fun k => iv k) he
  clear hr hr' hr6
  generalize wayE w l = e at *
  generalize l.map DesA.av = es at *
  generalize (keys.map fun k => iv k) = kv at *
  refine lim_by (fn := a7) (k := 3) (res := [.tmp 6]) rfl rfl rfl (by simp -implicitDefEqProofs (maxSteps := 2000000) (disch := first | exact tt_rfl rfl | omega | (simp only [go_sem] <;> omega) | fail) only [go_sem]) ?_
  try delta mvA
  try delta opA
  try delta tA
  simp -implicitDefEqProofs (maxSteps := 2000000) (disch := first | exact tt_rfl rfl | omega | (simp only [go_sem] <;> omega) | fail) only [go_sem]
  repeat (first | apply Wp.seqA | apply Wp.skipS | apply Wp.blockS | ((first | apply Wp.regS | apply Wp.condV | apply Wp.reg | apply Wp.condW | apply fin_ret); simp -implicitDefEqProofs (maxSteps := 2000000) (disch := first | exact tt_rfl rfl | omega | (simp only [go_sem] <;> omega) | fail) only [go_sem, hL, hkn, hP, k65, p10, ho, hi, hpl, hkt, hln, tl, hRe, hA, hI, hRW, he, hN0, kn, ite_self, decide_true, decide_false] <;> try with_reducible rfl) | apply Wp.block | apply Wp.exitS | apply Wp.retS | apply Wp.exit | apply Wp.ret | apply Wp.skip)
end Go.Abs
