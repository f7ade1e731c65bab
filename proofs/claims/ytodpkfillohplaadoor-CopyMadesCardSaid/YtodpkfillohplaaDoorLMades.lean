/-
 CopyMades: originals and copies are what the document says.
-/
import Derived.Test.YtodpkfillohplaaDoorX9
set_option linter.all false
namespace Go.Abs
set_option maxRecDepth 10000
set_option maxHeartbeats 8000000

theorem mades_main (kn : lim F 14 [] = some (.bool true, [])) (w : Int) (l : List DesA) (p q : Nat) (hp : p < 256) (hq : q < 256) : lim F 3 [iv w, .list 2 (l.map DesA.av), .agg [.int .u8 (p : Int), .int .u8 (q : Int)]] = some (.bool true, []) := by
 have hL := long_ok l
 by_cases hlong : longT l = true
 ·rw [hlong] at hL
  generalize l.map DesA.av = es at *
  refine lim_by (fn := a3) (k := 3) (res := [.tmp 6]) rfl rfl rfl (by simp -implicitDefEqProofs (maxSteps := 2000000) (disch := first | exact tt_rfl rfl | omega | (simp only [go_sem] <;> omega) | fail) only [go_sem]) ?_
  simp -implicitDefEqProofs (maxSteps := 2000000) (disch := first | exact tt_rfl rfl | omega | (simp only [go_sem] <;> omega) | fail) only [go_sem]
  repeat (first | apply Wp.seqA | apply Wp.skipS | apply Wp.blockS | ((first | apply Wp.regS | apply Wp.condV | apply Wp.reg | apply Wp.condW | apply fin_ret); simp -implicitDefEqProofs (maxSteps := 2000000) (disch := first | exact tt_rfl rfl | omega | (simp only [go_sem] <;> omega) | fail) only [go_sem, hL, kn] <;> try with_reducible rfl) | apply Wp.block | apply Wp.exitS | apply Wp.retS | apply Wp.exit | apply Wp.ret | apply Wp.skip)
 have hlong : longT l = false := by simpa using hlong
 obtain ⟨hl, hr⟩ := longT_no hlong
 rw [hlong] at hL
 have hr' : ∀ d ∈ l, d.rows.length ≤ 1000 := fun d hd => by have := hr d hd; omega
 have hr6 : ∀ d ∈ l, d.rows.length ≤ 1000000 := fun d hd => by have := hr d hd; omega
 have ho := own_ok l (by omega) hr'
 have hC := Check_ok l (by omega) hr6
 have hRC := refCheckS_ok l (by omega) hr6
 have hRW := refWay_ok w l (by omega) hr6
 have hA := Alike_same l (by omega) hr'
 obtain ⟨x, R, hRl, hF, hF1, hF2⟩ := first_both l hl hr w
 have hN := none_ok x (natsV R)
 have hSm : lim F 22 [.agg [iv x, .list 1 (natsV R)], .agg [iv x, .list 1 (natsV R)]] = some (.bool true, []) := by
  have := Same_ok ⟨x, R.map fun n : Nat => (n : Int)⟩ ⟨x, R.map fun n : Nat => (n : Int)⟩ (by simp; omega)
  unfold DesA.av at this
  simp only [and_self, decide_true] at this
  rw [← nats_ints] at this
  exact this
 have n1 : (natsV R).length = R.length := by simp
 have P1 := nats_plain R
 have t1 : (natsV R).take R.length = natsV R := List.take_of_length_le (by simp)
 have hln : (l.map DesA.av).length = l.length := by simp
 have tl : (l.map DesA.av).take l.length = l.map DesA.av := List.take_of_length_le (by simp)
 by_cases hz : l.length = 0
 ·clear hr hr' hr6
  generalize wayE w l = e at *
  generalize checkS l = c at *
  generalize l.map DesA.av = es at *
  by_cases he : e = 0
  ·have hF2 := hF2 he
   generalize natsV R = rv at *
   refine lim_by (fn := a3) (k := 3) (res := [.tmp 6]) rfl rfl rfl (by simp -implicitDefEqProofs (maxSteps := 2000000) (disch := first | exact tt_rfl rfl | omega | (simp only [go_sem] <;> omega) | fail) only [go_sem]) ?_
   simp -implicitDefEqProofs (maxSteps := 2000000) (disch := first | exact tt_rfl rfl | omega | (simp only [go_sem] <;> omega) | fail) only [go_sem]
   repeat (first | apply Wp.seqA | apply Wp.skipS | apply Wp.blockS | ((first | apply Wp.regS | apply Wp.condV | apply Wp.reg | apply Wp.condW | apply fin_ret); simp -implicitDefEqProofs (maxSteps := 2000000) (disch := first | exact tt_rfl rfl | omega | (simp only [go_sem] <;> omega) | fail) only [go_sem, ite_self, hL, ho, hC, hRC, hRW, hA, hF, hF2, hN, hSm, n1, P1, t1, hln, tl, kn, he, show ((l.length : Nat) : Int) = 0 by omega] <;> try with_reducible rfl) | apply Wp.block | apply Wp.exitS | apply Wp.retS | apply Wp.exit | apply Wp.ret | apply Wp.skip)
  ·obtain ⟨q1, q2⟩ := hF1 he
   subst q1
   subst q2
   have hN0 : lim F 21 [.agg [iv 0, .list 1 []]] = some (.bool true, []) := none_ok 0 []
   rw [show natsV [] = [] from rfl] at hF
   clear hN n1 P1 t1 hSm hF2
   refine lim_by (fn := a3) (k := 3) (res := [.tmp 6]) rfl rfl rfl (by simp -implicitDefEqProofs (maxSteps := 2000000) (disch := first | exact tt_rfl rfl | omega | (simp only [go_sem] <;> omega) | fail) only [go_sem]) ?_
   simp -implicitDefEqProofs (maxSteps := 2000000) (disch := first | exact tt_rfl rfl | omega | (simp only [go_sem] <;> omega) | fail) only [go_sem]
   repeat (first | apply Wp.seqA | apply Wp.skipS | apply Wp.blockS | ((first | apply Wp.regS | apply Wp.condV | apply Wp.reg | apply Wp.condW | apply fin_ret); simp -implicitDefEqProofs (maxSteps := 2000000) (disch := first | exact tt_rfl rfl | omega | (simp only [go_sem] <;> omega) | fail) only [go_sem, ite_self, hL, ho, hC, hRC, hRW, hA, hF, hN0, hln, tl, kn, he, List.length_nil, Int.natCast_zero, decide_true, Bool.and_self, show ((l.length : Nat) : Int) = 0 by omega] <;> try with_reducible rfl) | apply Wp.block | apply Wp.exitS | apply Wp.retS | apply Wp.exit | apply Wp.ret | apply Wp.skip)
 ·have hpm := Nat.mod_lt p (show 0 < l.length by omega)
  have hqm := Nat.mod_lt q (show 0 < l.length by omega)
  have ep : Int.tmod (p : Int) (l.length : Int) = ((p % l.length : Nat) : Int) := by rw [Int.tmod_eq_emod_of_nonneg (Int.natCast_nonneg _)]; simp
  have eq : Int.tmod (q : Int) (l.length : Int) = ((q % l.length : Nat) : Int) := by rw [Int.tmod_eq_emod_of_nonneg (Int.natCast_nonneg _)]; simp
  have gp := set_at hpm
  have gq := set_at hqm
  obtain ⟨m, n, hn, hM, hM1, hM2⟩ := made_both l[p % l.length] l[q % l.length] (hr _ (List.getElem_mem _)) (hr _ (List.getElem_mem _)) w
  have ho2 := own_ok [l[p % l.length], l[q % l.length]] (by simp) (fun d hd => by
   simp only [List.mem_cons, List.not_mem_nil, or_false] at hd
   rcases hd with rfl | rfl
   ·exact hr' _ (List.getElem_mem _)
   ·exact hr' _ (List.getElem_mem _))
  have hW2 := refWay_ok w [l[p % l.length], l[q % l.length]] (by simp) (fun d hd => by
   simp only [List.mem_cons, List.not_mem_nil, or_false] at hd
   rcases hd with rfl | rfl
   ·exact hr6 _ (List.getElem_mem _)
   ·exact hr6 _ (List.getElem_mem _))
  generalize l[p % l.length] = a at *
  generalize l[q % l.length] = b at *
  generalize p % l.length = pm at *
  generalize q % l.length = qm at *
  change lim F _ [.list 2 [a.av, b.av]] = some (.own 2 [a.av, b.av], []) at ho2
  change lim F _ [_, .list 2 [a.av, b.av]] = _ at hW2
  unfold DesA.av at ho2 hW2 hM hM2
  clear hr hr' hr6
  generalize a.rows.map (fun n => iv n) = ra at *
  generalize b.rows.map (fun n => iv n) = rb at *
  generalize wayE w [a, b] = g at *
  generalize wayE w l = e at *
  generalize checkS l = c at *
  generalize l.map DesA.av = es at *
  by_cases he : e = 0
  ·have hF2 := hF2 he
   generalize natsV R = rv at *
   by_cases hg : g = 0
   ·have hM2 := hM2 hg
    refine lim_by (fn := a3) (k := 3) (res := [.tmp 6]) rfl rfl rfl (by simp -implicitDefEqProofs (maxSteps := 2000000) (disch := first | exact tt_rfl rfl | omega | (simp only [go_sem] <;> omega) | fail) only [go_sem]) ?_
    simp -implicitDefEqProofs (maxSteps := 2000000) (disch := first | exact tt_rfl rfl | omega | (simp only [go_sem] <;> omega) | fail) only [go_sem]
    repeat (first | apply Wp.seqA | apply Wp.skipS | apply Wp.blockS | ((first | apply Wp.regS | apply Wp.condV | apply Wp.reg | apply Wp.condW | apply fin_ret); simp -implicitDefEqProofs (maxSteps := 2000000) (disch := first | exact tt_rfl rfl | omega | (simp only [go_sem] <;> omega) | fail) only [go_sem, ite_self, hL, ho, hC, hRC, hRW, hA, hF, hF2, hN, hSm, n1, P1, t1, hln, tl, kn, he, ep, eq, gp, gq, ho2, hW2, hM, hM2, hg, show ¬ ((l.length : Nat) : Int) = 0 by omega, Int.ofNat_lt, hpm, hqm] <;> try with_reducible rfl) | apply Wp.block | apply Wp.exitS | apply Wp.retS | apply Wp.exit | apply Wp.ret | apply Wp.skip)
   ·obtain ⟨q4, q5⟩ := hM1 hg
    refine lim_by (fn := a3) (k := 3) (res := [.tmp 6]) rfl rfl rfl (by simp -implicitDefEqProofs (maxSteps := 2000000) (disch := first | exact tt_rfl rfl | omega | (simp only [go_sem] <;> omega) | fail) only [go_sem]) ?_
    simp -implicitDefEqProofs (maxSteps := 2000000) (disch := first | exact tt_rfl rfl | omega | (simp only [go_sem] <;> omega) | fail) only [go_sem]
    repeat (first | apply Wp.seqA | apply Wp.skipS | apply Wp.blockS | ((first | apply Wp.regS | apply Wp.condV | apply Wp.reg | apply Wp.condW | apply fin_ret); simp -implicitDefEqProofs (maxSteps := 2000000) (disch := first | exact tt_rfl rfl | omega | (simp only [go_sem] <;> omega) | fail) only [go_sem, ite_self, hL, ho, hC, hRC, hRW, hA, hF, hF2, hN, hSm, n1, P1, t1, hln, tl, kn, he, ep, eq, gp, gq, ho2, hW2, hM, hg, q4, q5, Int.natCast_zero, show ¬ ((l.length : Nat) : Int) = 0 by omega, Int.ofNat_lt, hpm, hqm] <;> try with_reducible rfl) | apply Wp.block | apply Wp.exitS | apply Wp.retS | apply Wp.exit | apply Wp.ret | apply Wp.skip)
  ·obtain ⟨q1, q2⟩ := hF1 he
   subst q1
   subst q2
   have hN0 : lim F 21 [.agg [iv 0, .list 1 []]] = some (.bool true, []) := none_ok 0 []
   rw [show natsV [] = [] from rfl] at hF
   clear hN n1 P1 t1 hSm hF2
   by_cases hg : g = 0
   ·have hM2 := hM2 hg
    refine lim_by (fn := a3) (k := 3) (res := [.tmp 6]) rfl rfl rfl (by simp -implicitDefEqProofs (maxSteps := 2000000) (disch := first | exact tt_rfl rfl | omega | (simp only [go_sem] <;> omega) | fail) only [go_sem]) ?_
    simp -implicitDefEqProofs (maxSteps := 2000000) (disch := first | exact tt_rfl rfl | omega | (simp only [go_sem] <;> omega) | fail) only [go_sem]
    repeat (first | apply Wp.seqA | apply Wp.skipS | apply Wp.blockS | ((first | apply Wp.regS | apply Wp.condV | apply Wp.reg | apply Wp.condW | apply fin_ret); simp -implicitDefEqProofs (maxSteps := 2000000) (disch := first | exact tt_rfl rfl | omega | (simp only [go_sem] <;> omega) | fail) only [go_sem, ite_self, hL, ho, hC, hRC, hRW, hA, hF, hN0, hln, tl, kn, he, List.length_nil, Int.natCast_zero, decide_true, Bool.and_self, ep, eq, gp, gq, ho2, hW2, hM, hM2, hg, show ¬ ((l.length : Nat) : Int) = 0 by omega, Int.ofNat_lt, hpm, hqm] <;> try with_reducible rfl) | apply Wp.block | apply Wp.exitS | apply Wp.retS | apply Wp.exit | apply Wp.ret | apply Wp.skip)
   ·obtain ⟨q4, q5⟩ := hM1 hg
    refine lim_by (fn := a3) (k := 3) (res := [.tmp 6]) rfl rfl rfl (by simp -implicitDefEqProofs (maxSteps := 2000000) (disch := first | exact tt_rfl rfl | omega | (simp only [go_sem] <;> omega) | fail) only [go_sem]) ?_
    simp -implicitDefEqProofs (maxSteps := 2000000) (disch := first | exact tt_rfl rfl | omega | (simp only [go_sem] <;> omega) | fail) only [go_sem]
    repeat (first | apply Wp.seqA | apply Wp.skipS | apply Wp.blockS | ((first | apply Wp.regS | apply Wp.condV | apply Wp.reg | apply Wp.condW | apply fin_ret); simp -implicitDefEqProofs (maxSteps := 2000000) (disch := first | exact tt_rfl rfl | omega | (simp only [go_sem] <;> omega) | fail) only [go_sem, ite_self, hL, ho, hC, hRC, hRW, hA, hF, hN0, hln, tl, kn, he, List.length_nil, Int.natCast_zero, decide_true, Bool.and_self, ep, eq, gp, gq, ho2, hW2, hM, hg, q4, q5, show ¬ ((l.length : Nat) : Int) = 0 by omega, Int.ofNat_lt, hpm, hqm] <;> try with_reducible rfl) | apply Wp.block | apply Wp.exitS | apply Wp.retS | apply Wp.exit | apply Wp.ret | apply Wp.skip)
end Go.Abs
