/-
 CopyTrees: which copy was made of which, and the fewest copies that are needed, are what the document says.
-/
import Derived.Test.YtodpkfillohplaaDoorX14
set_option linter.all false
namespace Go.Abs
set_option maxRecDepth 10000
set_option maxHeartbeats 8000000

theorem trees_good (l : List DesA) (w : Int) (he : wayE w l = 0) : ∃ (T : List Int) (c : Nat) (x : List Nat), T.length ≤ 12 ∧ x.length ≤ 12 ∧ c ≤ 100000 ∧
  lim F 26 [iv w, .list 2 (l.map DesA.av)] = some (.tuple [.own 1 (intsV T), iv (c : Int), iv 0], []) ∧
  lim F 27 [iv w, .list 2 (l.map DesA.av)] = some (.tuple [.list 1 (natsV x), iv 0], []) ∧
  lim F 28 [iv w, .list 2 (l.map DesA.av)] = some (.tuple [.own 1 (intsV T), iv (c : Int)], []) ∧
  lim F 30 [iv w, .list 2 (l.map DesA.av)] = some (.own 1 (natsV x), []) := by
 have hc : checkS l = 0 := by
  unfold wayE at he
  split at he
  ·rename_i h; exact absurd he h
  ·rename_i h; exact Classical.not_not.1 h
 have hw : ∃ t, w = wayOf t := by
  unfold wayE at he
  rw [if_neg (by simpa using hc)] at he
  split at he
  ·rename_i h
   rcases h with rfl | rfl
   ·exact ⟨false, rfl⟩
   ·exact ⟨true, rfl⟩
  ·cases he
 obtain ⟨t, rfl⟩ := hw
 obtain ⟨ns, hk, n, hS, rfl⟩ := checkS_zero hc
 rw [sets_av]
 have hl10 := hS.l10
 have hl1 := hS.l1
 have k4 := hS.k1.2.2
 have hall : isN (setsN t hk ns) n (List.range ns.length) = true := by
  have := isN_all (setsN t hk ns) n
  simpa using this
 obtain ⟨M, hM, i0, hi0, h1, h2, h3⟩ := needed_ex (setsN t hk ns) n ns.length hl1 hall
 have hN := Needed_ok hS t M hM i0 hi0 h1 h2 h3
 have hR := refNeeded_ok hS t
 rw [needed_eq (setsN t hk ns) n ns.length hl1 hall M i0 hi0 h1 h2 h3] at hR
 have hle := treeS_le (setsN t hk ns) (joinN (setsN t hk ns) n) n ns.length
 have h4 : 24 * n * ns.length ≤ 24 * 60 * 10 := Nat.mul_le_mul (Nat.mul_le_mul (Nat.le_refl _) k4) (by omega)
 exact ⟨_, _, _, by rw [treeL_len]; omega, by rw [partsL_len ns.length (M + 1) 0 _ (List.getElem_mem hi0)]; omega, by omega, Tree_ok hS t, hN, refTree_ok hS t, hR⟩

theorem trees_main (kn : lim F 14 [] = some (.bool true, [])) (w : Int) (l : List DesA) : lim F 4 [iv w, .list 2 (l.map DesA.av)] = some (.bool true, []) := by
 have hL := long_ok l
 by_cases hlong : longT l = true
 ·rw [hlong] at hL
  generalize l.map DesA.av = es at *
  refine lim_by (fn := a4) (k := 2) (res := [.tmp 4]) rfl rfl rfl (by simp -implicitDefEqProofs (maxSteps := 2000000) (disch := first | exact tt_rfl rfl | omega | (simp only [go_sem] <;> omega) | fail) only [go_sem]) ?_
  simp -implicitDefEqProofs (maxSteps := 2000000) (disch := first | exact tt_rfl rfl | omega | (simp only [go_sem] <;> omega) | fail) only [go_sem]
  repeat (first | apply Wp.seqA | apply Wp.skipS | apply Wp.blockS | ((first | apply Wp.regS | apply Wp.condV | apply Wp.reg | apply Wp.condW | apply fin_ret); simp -implicitDefEqProofs (maxSteps := 2000000) (disch := first | exact tt_rfl rfl | omega | (simp only [go_sem] <;> omega) | fail) only [go_sem, hL, kn] <;> try with_reducible rfl) | apply Wp.block | apply Wp.exitS | apply Wp.retS | apply Wp.exit | apply Wp.ret | apply Wp.skip)
 have hlong : longT l = false := by simpa using hlong
 obtain ⟨hl, hr⟩ := longT_no hlong
 rw [hlong] at hL
 have hr' : ∀ d ∈ l, d.rows.length ≤ 1000 := fun d hd => by have := hr d hd; omega
 have hr6 : ∀ d ∈ l, d.rows.length ≤ 1000000 := fun d hd => by have := hr d hd; omega
 have ho := own_ok l (by omega) hr'
 have hRW := refWay_ok w l (by omega) hr6
 have hA := Alike_same l (by omega) hr'
 have hln : (l.map DesA.av).length = l.length := by simp
 have tl : (l.map DesA.av).take l.length = l.map DesA.av := List.take_of_length_le (by simp)
 by_cases he : wayE w l = 0
 ·obtain ⟨T, c, x, hT, hx, hc, f1, f2, f3, f4⟩ := trees_good l w he
  have n1 : (intsV T).length = T.length := by simp
  have P1 : (intsV T).all AV.plain = true := int_plain _
  have t1 : (intsV T).take T.length = intsV T := List.take_of_length_le (by simp)
  have n2 : (natsV x).length = x.length := by simp
  have P2 := nats_plain x
  have t2 : (natsV x).take x.length = natsV x := List.take_of_length_le (by simp)
  have I1 : lim F 29 [.list 1 (intsV T), .list 1 (intsV T)] = some (.bool true, []) := by
   have := Ints_ok T T (by omega)
   rw [decide_eq_true rfl] at this
   exact this
  have I2 : lim F 29 [.list 1 (natsV x), .list 1 (natsV x)] = some (.bool true, []) := by
   have := IntsN_ok x x (by omega)
   rw [decide_eq_true rfl] at this
   exact this
  rw [he] at hRW
  clear hr hr' hr6 hlong
  generalize l.map DesA.av = es at *
  generalize intsV T = tv at *
  generalize natsV x = xv at *
  refine lim_by (fn := a4) (k := 2) (res := [.tmp 4]) rfl rfl rfl (by simp -implicitDefEqProofs (maxSteps := 2000000) (disch := first | exact tt_rfl rfl | omega | (simp only [go_sem] <;> omega) | fail) only [go_sem]) ?_
  simp -implicitDefEqProofs (maxSteps := 2000000) (disch := first | exact tt_rfl rfl | omega | (simp only [go_sem] <;> omega) | fail) only [go_sem]
  repeat (first | apply Wp.seqA | apply Wp.skipS | apply Wp.blockS | ((first | apply Wp.regS | apply Wp.condV | apply Wp.reg | apply Wp.condW | apply fin_ret); simp -implicitDefEqProofs (maxSteps := 2000000) (disch := first | exact tt_rfl rfl | omega | (simp only [go_sem] <;> omega) | fail) only [go_sem, ite_self, hL, ho, hRW, hA, f1, f2, f3, f4, n1, P1, t1, n2, P2, t2, I1, I2, hln, tl, kn] <;> try with_reducible rfl) | apply Wp.block | apply Wp.exitS | apply Wp.retS | apply Wp.exit | apply Wp.ret | apply Wp.skip)
 ·have f1 := Tree_bad l (by omega) hr6 w he
  have f2 := Needed_bad l (by omega) hr6 w he
  clear hr hr' hr6 hlong
  generalize wayE w l = e at *
  generalize l.map DesA.av = es at *
  refine lim_by (fn := a4) (k := 2) (res := [.tmp 4]) rfl rfl rfl (by simp -implicitDefEqProofs (maxSteps := 2000000) (disch := first | exact tt_rfl rfl | omega | (simp only [go_sem] <;> omega) | fail) only [go_sem]) ?_
  simp -implicitDefEqProofs (maxSteps := 2000000) (disch := first | exact tt_rfl rfl | omega | (simp only [go_sem] <;> omega) | fail) only [go_sem]
  repeat (first | apply Wp.seqA | apply Wp.skipS | apply Wp.blockS | ((first | apply Wp.regS | apply Wp.condV | apply Wp.reg | apply Wp.condW | apply fin_ret); simp -implicitDefEqProofs (maxSteps := 2000000) (disch := first | exact tt_rfl rfl | omega | (simp only [go_sem] <;> omega) | fail) only [go_sem, ite_self, hL, ho, hRW, hA, f1, f2, hln, tl, kn, he, List.length_nil, Int.natCast_zero, decide_true, Bool.and_self] <;> try with_reducible rfl) | apply Wp.block | apply Wp.exitS | apply Wp.retS | apply Wp.exit | apply Wp.ret | apply Wp.skip)
end Go.Abs
