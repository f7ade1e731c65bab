/-
 CopyKeys: the keys of any set, and the cards that do not have theirs.
-/
import Derived.Test.YtodpkfillohplaaDoorX3
set_option linter.all false
namespace Go.Abs
set_option maxRecDepth 10000
set_option maxHeartbeats 8000000

def wrong2 (d : DesN) (l : List Int) (i : Nat) : List Nat := (List.range i).filter fun j => decide (j < l.length) && wrongB d l j
theorem wrong2_succ (d : DesN) (l : List Int) (i : Nat) : wrong2 d l (i + 1) = wrong2 d l i ++ if (decide (i < l.length) && wrongB d l i) = true then [i] else [] := by
 unfold wrong2
 rw [List.range_succ, List.filter_append]
 congr 1
 cases h : decide (i < l.length) && wrongB d l i <;> simp [h]
theorem wrong2_eq (d : DesN) (l : List Int) : wrong2 d l l.length = wrongTo d l l.length := by
 unfold wrong2 wrongTo
 refine List.filter_congr fun j hj => ?_
 rw [decide_eq_true (List.mem_range.1 hj), Bool.true_and]
theorem wrong2_le (d : DesN) (l : List Int) (i : Nat) : (wrong2 d l i).length ≤ i := by
 unfold wrong2
 exact Nat.le_trans (List.length_filter_le _ _) (by simp)
theorem keys_main (kn : lim F 14 [] = some (.bool true, [])) (d : DesA) (l : List Int) : lim F 6 [d.av, .list 1 (l.map fun k => iv k)] = some (.bool true, []) := by
 have hln : (l.map fun k => iv k).length = l.length := by simp
 have hrn : (d.rows.map fun k => iv k).length = d.rows.length := by simp
 by_cases h1 : 65 < d.rows.length
 ·unfold DesA.av
  generalize d.rows.map (fun k => iv k) = es at *
  refine lim_by (fn := a6) (k := 2) (res := [.tmp 4]) rfl rfl rfl (by simp -implicitDefEqProofs (maxSteps := 2000000) (disch := first | exact tt_rfl rfl | omega | (simp only [go_sem] <;> omega) | fail) only [go_sem]) ?_
  simp -implicitDefEqProofs (maxSteps := 2000000) (disch := first | exact tt_rfl rfl | omega | (simp only [go_sem] <;> omega) | fail) only [go_sem]
  repeat (first | apply Wp.seqA | apply Wp.skipS | apply Wp.blockS | ((first | apply Wp.regS | apply Wp.condV | apply Wp.reg | apply Wp.condW | apply fin_ret); simp -implicitDefEqProofs (maxSteps := 2000000) (disch := first | exact tt_rfl rfl | omega | (simp only [go_sem] <;> omega) | fail) only [go_sem, hrn, kn, show (65 : Int) < d.rows.length by omega] <;> try with_reducible rfl) | apply Wp.block | apply Wp.exitS | apply Wp.retS | apply Wp.exit | apply Wp.ret | apply Wp.skip)
 by_cases h2 : 65 < l.length
 ·unfold DesA.av
  generalize d.rows.map (fun k => iv k) = es at *
  generalize l.map (fun k => iv k) = ks at *
  refine lim_by (fn := a6) (k := 2) (res := [.tmp 4]) rfl rfl rfl (by simp -implicitDefEqProofs (maxSteps := 2000000) (disch := first | exact tt_rfl rfl | omega | (simp only [go_sem] <;> omega) | fail) only [go_sem]) ?_
  simp -implicitDefEqProofs (maxSteps := 2000000) (disch := first | exact tt_rfl rfl | omega | (simp only [go_sem] <;> omega) | fail) only [go_sem]
  repeat (first | apply Wp.seqA | apply Wp.skipS | apply Wp.blockS | ((first | apply Wp.regS | apply Wp.condV | apply Wp.reg | apply Wp.condW | apply fin_ret); simp -implicitDefEqProofs (maxSteps := 2000000) (disch := first | exact tt_rfl rfl | omega | (simp only [go_sem] <;> omega) | fail) only [go_sem, hrn, hln, kn, show ¬ (65 : Int) < d.rows.length by omega, show (65 : Int) < l.length by omega] <;> try with_reducible rfl) | apply Wp.block | apply Wp.exitS | apply Wp.retS | apply Wp.exit | apply Wp.ret | apply Wp.skip)
 have ho := own_ok [d] (by simp) (by simp; omega)
 have hi := ints_ok l (by omega)
 have hA := Alike_same [d] (by simp) (by simp; omega)
 have hI := Ints_ok l l (by omega)
 have hD := refSet_ok d (by omega)
 have hip : (l.map fun k => iv k).all AV.plain = true := int_plain l
 have htk : (l.map fun k => iv k).take l.length = l.map fun k => iv k := List.take_of_length_le (by simp)
 change lim F _ [.list 2 [d.av]] = some (.own 2 [d.av], []) at ho
 change lim F _ [.list 2 [d.av], .list 2 [d.av]] = _ at hA
 by_cases hc : checkD d = 0
 ·obtain ⟨n, hn, rfl⟩ := checkD_zero hc
  have hr : n.a.rows.length = n.rows.length := by simp [DesN.a]
  have hK := Keys_ok n hn
  rw [hc] at hD
  rw [setV_av] at *
  rw [hr] at h1
  have hRK : lim F 45 [setV n, .list 1 (l.map fun k => iv k)] = some (iv (keysE n.rows.length l), []) := by
   have := ref12Keys_ok (n.hk : Int) (natsV n.rows) l (by omega) (by simp; omega)
   rw [nats_len] at this
   exact this
  have hW : ∃ W : List Nat, W.length ≤ 1000 ∧ lim F 42 [setV n, .list 1 (l.map fun k => iv k)] = some (.tuple [.own 1 (natsV W), iv (keysE n.rows.length l)], []) ∧ (keysE n.rows.length l = 0 → W = wrong2 n l n.rows.length) ∧ (keysE n.rows.length l ≠ 0 → W = []) := by
   by_cases hk : keysE n.rows.length l = 0
   ·have hll : l.length = n.rows.length := by
     unfold keysE at hk
     split at hk
     ·cases hk
     ·rename_i h; simpa using h
    rw [hk]
    refine ⟨_, ?_, Wrong_ok n hn l hk, fun _ => ?_, fun h => absurd rfl h⟩
    ·have := wrongTo_le n l l.length; omega
    ·rw [← hll, wrong2_eq]
   ·have := Wrong_bad n.a (by omega) l (by omega) (by unfold wrongE; rw [if_neg (by simpa using hc), hr]; exact hk)
    unfold wrongE at this
    rw [if_neg (by simpa using hc), hr, setV_av] at this
    exact ⟨[], by simp, this, fun h => absurd h hk, fun _ => rfl⟩
  obtain ⟨W, hWl, hW, hW1, hW2⟩ := hW
  have hII := IntsN_ok (keysTo n n.rows.length) (keysTo n n.rows.length) (by simp; omega)
  have hWW := IntsN_ok W (wrong2 n l n.rows.length) (by omega)
  rw [decide_eq_true rfl] at hII
  have n0 : (natsV n.rows).length = n.rows.length := by simp
  have n1 : (natsV (keysTo n n.rows.length)).length = n.rows.length := by simp
  have n2 : (natsV W).length = W.length := by simp
  have P1 := nats_plain (keysTo n n.rows.length)
  have P2 := nats_plain W
  have t1 : (natsV (keysTo n n.rows.length)).take n.rows.length = natsV (keysTo n n.rows.length) := List.take_of_length_le (by omega)
  have t2 : (natsV W).take W.length = natsV W := List.take_of_length_le (by omega)
  have g0 : ∀ i, i < n.rows.length → (natsV n.rows)[i]? = some (iv ((n.rows.getD i 0 : Nat) : Int)) := fun i h => nats_at h
  have gK := fun i (h : i < n.rows.length) => refKey_ok (n.rows.getD i 0) (hn.at24 h)
  have gl : ∀ i, i < l.length → (l.map fun k => iv k)[i]? = some (iv (l.getD i 0)) := fun i h => ints_at h
  have hst : ∀ i, natsV (keysTo n (i + 1)) = natsV (keysTo n i) ++ [iv ((keyN (n.rows.getD i 0) : Nat) : Int)] := fun i => by rw [keysTo_succ, nats_snoc]
  have hl0 : ∀ i, (natsV (keysTo n i)).length = i := fun i => by simp
  have hws := wrong2_succ n l
  have hwl := wrong2_le n l
  have gA : ∀ i, (natsV (keysTo n i) ++ [iv ((keyN (n.rows.getD i 0) : Nat) : Int)])[i]? = some (iv ((keyN (n.rows.getD i 0) : Nat) : Int)) := fun i => by
   rw [List.getElem?_append_right (by rw [hl0 i]; omega), hl0 i, Nat.sub_self]; rfl
  have h60 := hn.r60
  unfold setV at *
  generalize hKK : natsV (keysTo n n.rows.length) = al at *
  generalize natsV n.rows = es at *
  generalize natsV W = wv at *
  generalize hks : l.map (fun k => iv k) = ks at *
  refine lim_by (fn := a6) (k := 2) (res := [.tmp 4]) rfl rfl rfl (by simp -implicitDefEqProofs (maxSteps := 2000000) (disch := first | exact tt_rfl rfl | omega | (simp only [go_sem] <;> omega) | fail) only [go_sem]) ?_
  simp -implicitDefEqProofs (maxSteps := 2000000) (disch := first | exact tt_rfl rfl | omega | (simp only [go_sem] <;> omega) | fail) only [go_sem]
  repeat (first | apply Wp.seqA | apply Wp.skipS | apply Wp.blockS | ((first | apply Wp.regS | apply Wp.condV | apply Wp.reg | apply Wp.condW | apply fin_ret); simp -implicitDefEqProofs (maxSteps := 2000000) (disch := first | exact tt_rfl rfl | omega | (simp only [go_sem] <;> omega) | fail) only [go_sem, hrn, n0, hln, kn, ho, hi, hA, hI, hD, hK, hW, hip, htk, P1, P2, t1, t2, show ¬ (65 : Int) < n.rows.length by omega, show ¬ (65 : Int) < l.length by omega] <;> try with_reducible rfl) | apply Wp.block | apply Wp.exitS | apply Wp.retS | apply Wp.exit | apply Wp.ret | apply Wp.skip)
  apply Wp.loopF n.rows.length (fun i => ⟨[(1, .list 1 ks), (2, .ptr 128 0 0), (7, .slice 448 0 n.rows.length), (9, .slice 576 0 W.length), (10, iv (keysE n.rows.length l)), (12, .slice 768 0 i), (13, .slice 832 0 (wrong2 n l i).length), (14, iv (i : Int))], [(128, .box [iv (n.hk : Int), .list 1 es]), (448, .arr 1 al), (576, .arr 1 wv), (768, .arr 1 (natsV (keysTo n i))), (832, .arr 1 (natsV (wrong2 n l i)))], [], 10000000⟩) (fun _ => True)
  ·simp -implicitDefEqProofs (maxSteps := 2000000) (disch := first | exact tt_rfl rfl | omega | (simp only [go_sem] <;> omega) | fail) only [go_sem, norm_eq, Ok.some]
   rw [n1, n2]; rfl
  ·trivial
  intro i hi _
  by_cases h : i < n.rows.length
  ·have a0 := g0 i h
   have aK := gK i h
   have al := gl i
   have e1 := hst i
   have aA := gA i
   have e2 := hws i
   have q1 := hl0 i
   have q2 := hwl i
   have eB : wrongB n l i = decide (l.getD i 0 ≠ -1 ∧ l.getD i 0 ≠ ((keyN (n.rows.getD i 0) : Nat) : Int)) := rfl
   have q3 : (natsV (wrong2 n l i)).length = (wrong2 n l i).length := by simp
   have e3 : natsV (wrong2 n l (i + 1)) = natsV (wrong2 n l i) ++ natsV (if (decide (i < l.length) && wrongB n l i) = true then [i] else []) := by
    rw [e2]; unfold natsV; rw [List.map_append]
   rw [e1, e3, e2]
   rw [eB]
   generalize keyN (n.rows.getD i 0) = kk at *
   generalize n.rows.getD i 0 = r at *
   generalize l.getD i 0 = k at *
   generalize natsV (keysTo n i) = L at *
   generalize natsV (wrong2 n l i) = Lw at *
   generalize wrong2 n l i = Ww at *
   by_cases c0 : i < l.length
   ·have al := al c0
    by_cases c1 : k = -1
    ·rw [if_neg (by simp [c1])]
     repeat (first | apply Wp.seqA | apply Wp.skipS | apply Wp.blockS | ((first | apply Wp.regS | apply Wp.condV | apply Wp.reg | apply Wp.condW | apply fin_ret); simp -implicitDefEqProofs (maxSteps := 2000000) (disch := first | exact tt_rfl rfl | omega | (simp only [go_sem] <;> omega) | fail) only [go_sem, h, Int.ofNat_lt, n0, hln, a0, aK, q1, c0, al, c1] <;> try with_reducible rfl) | apply Wp.block | apply Wp.exitS | apply Wp.retS | apply Wp.exit | apply Wp.ret | apply Wp.skip)
     apply round_next
     ·simp -implicitDefEqProofs (maxSteps := 2000000) (disch := first | exact tt_rfl rfl | omega | (simp only [go_sem] <;> omega) | fail) only [go_sem, norm_eq, Ok.some]; with_reducible rfl
     exact ⟨h, by simp [natsV], trivial⟩
    ·by_cases c2 : k = (kk : Int)
     ·rw [if_neg (by simp [c2])]
      repeat (first | apply Wp.seqA | apply Wp.skipS | apply Wp.blockS | ((first | apply Wp.regS | apply Wp.condV | apply Wp.reg | apply Wp.condW | apply fin_ret); simp -implicitDefEqProofs (maxSteps := 2000000) (disch := first | exact tt_rfl rfl | omega | (simp only [go_sem] <;> omega) | fail) only [go_sem, h, Int.ofNat_lt, n0, hln, a0, aK, q1, c0, al, c1, aA, show (k = (kk : Int)) = True from eq_true c2, List.length_append, List.length_cons, List.length_nil] <;> try with_reducible rfl) | apply Wp.block | apply Wp.exitS | apply Wp.retS | apply Wp.exit | apply Wp.ret | apply Wp.skip)
      apply round_next
      ·simp -implicitDefEqProofs (maxSteps := 2000000) (disch := first | exact tt_rfl rfl | omega | (simp only [go_sem] <;> omega) | fail) only [go_sem, norm_eq, Ok.some]; with_reducible rfl
      exact ⟨h, by simp [natsV], trivial⟩
     ·rw [if_pos (by simp [c0, c1, c2])]
      repeat (first | apply Wp.seqA | apply Wp.skipS | apply Wp.blockS | ((first | apply Wp.regS | apply Wp.condV | apply Wp.reg | apply Wp.condW | apply fin_ret); simp -implicitDefEqProofs (maxSteps := 2000000) (disch := first | exact tt_rfl rfl | omega | (simp only [go_sem] <;> omega) | fail) only [go_sem, h, Int.ofNat_lt, n0, hln, a0, aK, q1, c0, al, c1, c2, aA, q3, List.length_append, List.length_cons, List.length_nil] <;> try with_reducible rfl) | apply Wp.block | apply Wp.exitS | apply Wp.retS | apply Wp.exit | apply Wp.ret | apply Wp.skip)
      apply round_next
      ·simp -implicitDefEqProofs (maxSteps := 2000000) (disch := first | exact tt_rfl rfl | omega | (simp only [go_sem] <;> omega) | fail) only [go_sem, norm_eq, Ok.some]; with_reducible rfl
      exact ⟨h, by simp [natsV], trivial⟩
   ·rw [if_neg (by simp [c0])]
    repeat (first | apply Wp.seqA | apply Wp.skipS | apply Wp.blockS | ((first | apply Wp.regS | apply Wp.condV | apply Wp.reg | apply Wp.condW | apply fin_ret); simp -implicitDefEqProofs (maxSteps := 2000000) (disch := first | exact tt_rfl rfl | omega | (simp only [go_sem] <;> omega) | fail) only [go_sem, h, Int.ofNat_lt, n0, hln, a0, aK, q1, c0] <;> try with_reducible rfl) | apply Wp.block | apply Wp.exitS | apply Wp.retS | apply Wp.exit | apply Wp.ret | apply Wp.skip)
    apply round_next
    ·simp -implicitDefEqProofs (maxSteps := 2000000) (disch := first | exact tt_rfl rfl | omega | (simp only [go_sem] <;> omega) | fail) only [go_sem, norm_eq, Ok.some]; with_reducible rfl
    exact ⟨h, by simp [natsV], trivial⟩
  ·obtain rfl : i = n.rows.length := by omega
   rw [hKK]
   have q1 := hwl n.rows.length
   have q3 : (natsV (wrong2 n l n.rows.length)).length = (wrong2 n l n.rows.length).length := by simp
   have t3 : (natsV (wrong2 n l n.rows.length)).take (wrong2 n l n.rows.length).length = natsV (wrong2 n l n.rows.length) := List.take_of_length_le (by omega)
   by_cases hk : keysE n.rows.length l = 0
   ·have e := hW1 hk
    rw [decide_eq_true e] at hWW
    generalize natsV (wrong2 n l n.rows.length) = Lw at *
    generalize (wrong2 n l n.rows.length).length = wl at *
    repeat (first | apply Wp.seqA | apply Wp.skipS | apply Wp.blockS | ((first | apply Wp.regS | apply Wp.condV | apply Wp.reg | apply Wp.condW | apply fin_ret); simp -implicitDefEqProofs (maxSteps := 2000000) (disch := first | exact tt_rfl rfl | omega | (simp only [go_sem] <;> omega) | fail) only [go_sem, Int.lt_irrefl, n0, n1, n2, hII, t1, t2, t3, hRK, hWW, hk, kn, q3] <;> try with_reducible rfl) | apply Wp.block | apply Wp.exitS | apply Wp.retS | apply Wp.exit | apply Wp.ret | apply Wp.skip)
   ·have e := hW2 hk
    have e0 : W.length = 0 := by rw [e]; rfl
    generalize natsV (wrong2 n l n.rows.length) = Lw at *
    generalize (wrong2 n l n.rows.length).length = wl at *
    generalize keysE n.rows.length l = ke at *
    repeat (first | apply Wp.seqA | apply Wp.skipS | apply Wp.blockS | ((first | apply Wp.regS | apply Wp.condV | apply Wp.reg | apply Wp.condW | apply fin_ret); simp -implicitDefEqProofs (maxSteps := 2000000) (disch := first | exact tt_rfl rfl | omega | (simp only [go_sem] <;> omega) | fail) only [go_sem, Int.lt_irrefl, n0, n1, n2, hII, t1, t2, t3, hRK, hk, kn, q3, show ((W.length : Nat) : Int) = 0 by omega] <;> try with_reducible rfl) | apply Wp.block | apply Wp.exitS | apply Wp.retS | apply Wp.exit | apply Wp.ret | apply Wp.skip)
 ·have hK := Keys_bad d (by omega) hc
  have hw : wrongE d l = checkD d := by unfold wrongE; rw [if_pos hc]
  have hW := Wrong_bad d (by omega) l (by omega) (by rw [hw]; exact hc)
  rw [hw] at hW
  unfold DesA.av at *
  generalize d.rows.map (fun k => iv k) = es at *
  generalize l.map (fun k => iv k) = ks at *
  generalize checkD d = c at *
  refine lim_by (fn := a6) (k := 2) (res := [.tmp 4]) rfl rfl rfl (by simp -implicitDefEqProofs (maxSteps := 2000000) (disch := first | exact tt_rfl rfl | omega | (simp only [go_sem] <;> omega) | fail) only [go_sem]) ?_
  simp -implicitDefEqProofs (maxSteps := 2000000) (disch := first | exact tt_rfl rfl | omega | (simp only [go_sem] <;> omega) | fail) only [go_sem]
  repeat (first | apply Wp.seqA | apply Wp.skipS | apply Wp.blockS | ((first | apply Wp.regS | apply Wp.condV | apply Wp.reg | apply Wp.condW | apply fin_ret); simp -implicitDefEqProofs (maxSteps := 2000000) (disch := first | exact tt_rfl rfl | omega | (simp only [go_sem] <;> omega) | fail) only [go_sem, hrn, hln, kn, ho, hi, hA, hI, hD, hK, hW, hip, htk, hc, List.length_nil, Int.natCast_zero, show ¬ (65 : Int) < d.rows.length by omega, show ¬ (65 : Int) < l.length by omega] <;> try with_reducible rfl) | apply Wp.block | apply Wp.exitS | apply Wp.retS | apply Wp.exit | apply Wp.ret | apply Wp.skip)
end Go.Abs
