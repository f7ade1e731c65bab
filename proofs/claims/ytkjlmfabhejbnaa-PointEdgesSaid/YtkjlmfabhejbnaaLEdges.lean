/-
 PointEdges: a design that was reflected, and a design beside or above itself.
-/
import Derived.Test.YtkjlmfabhejbnaaM18
import Derived.Test.YtkjlmfabhejbnaaV4
import Derived.Test.YtkjlmfabhejbnaaD1
import Derived.Test.YtkjlmfabhejbnaaP6b
import Derived.Test.YtkjlmfabhejbnaaL1
set_option linter.all false
namespace Go.Abs
set_option maxRecDepth 10000
set_option maxHeartbeats 8000000

theorem longestE_ok (d : DesN) (hd : d.Ok) : lim F 19 [.agg [iv (d.hk : Int), .list 1 (natsV d.rows)]] = some (.tuple [.agg [iv (mxF false (weftF d)), iv (mxF true (weftF d)), iv (mxF true (warpF d)), iv (mxF false (warpF d))], iv 0], []) := by
 have h60 := hd.r60
 have hc := Check_ok d.a (by simp [DesN.a]; omega)
 rw [checkD_ok hd, DesN.a_av] at hc
 have e1 := floats1_ok d
 have e2 := floats2_ok d
 have g1 := weft_guess d hd
 have g2 := warp_guess d hd
 have k1 := weft_check d hd
 have k2 := warp_check d hd
 unfold DesN.av at *
 exact longest_of _ _ _ _ _ hc e1 e2 g1 g2 k1 k2
theorem ownE_ok (d : DesN) (hd : d.Ok) : lim F 16 [.agg [iv (d.hk : Int), .list 1 (natsV d.rows)]] = some (.agg [iv (d.hk : Int), .own 1 (natsV d.rows)], []) := by
 have h60 := hd.r60
 have h := own_ok d.a (by simp [DesN.a]; omega)
 rw [DesN.a_av] at h
 change lim F _ [.agg [_, .list 1 (natsV d.rows)]] = _ at h
 rw [h]
 unfold DesN.a natsV
 dsimp only
 rw [List.map_map]; rfl
theorem edges_main (kn : lim F 15 [] = some (.bool true, [])) (x : PaperB) : lim F 13 [x.av] = some (.bool true, []) := by
 have hdes := design_ok x 12 (by omega) (by omega)
 rw [show ((12 : Nat) : Int) = 12 from rfl] at hdes
 have hd := paper_ok x (m := 12) (by omega) (by omega)
 have h12 : (paperN x 12).hk ≤ 12 := by unfold paperN; dsimp only; have := Nat.mod_lt x.hk.1 (show 0 < 12 by omega); omega
 have h20 : (paperN x 12).rows.length ≤ 20 := by unfold paperN; simp; omega
 change lim F _ _ = some (AV.agg [_, .own 1 (natsV (paperN x 12).rows)], []) at hdes
 generalize paperN x 12 = d at *
 have hr1 := hd.r1
 have hh1 := hd.h1
 have hH : reflH d ≤ 24 := by unfold reflH; omega
 have hr := reflectN_ok hd hH
 have hrl : (reflectN d).rows.length = d.rows.length := by simp [reflectN, madeN]
 have hb := besideN_ok hd hd rfl (by omega)
 have ha := aboveN_ok hd hd rfl (by omega)
 have hm := mirror_ok hr
 have hml : (mirrorN (reflectN d)).rows.length = d.rows.length := by simp [mirrorN, madeN, hrl]
 have o0 := ownE_ok d hd
 have o1 := ownE_ok (reflectN d) hr
 have o2 := ownE_ok (besideN d d) hb
 have o3 := ownE_ok (aboveN d d) ha
 have k1 := Reflect_ok d hd hH
 have k2 := Mirror_ok (reflectN d) hr
 have k3 := Beside_ok d d hd hd rfl (by omega)
 have k4 := Above_ok d d hd hd rfl (by omega)
 have hR := right_ok (reflectN d) hr
 have hI := isN_same (reflectN d) (by omega)
 have l0 := Least_ok d hd
 have l1 := Least_ok (besideN d d) hb
 have l2 := Least_ok (aboveN d d) ha
 rw [bes_leastP hd (by omega), bes_leastH hd (by omega)] at l1
 rw [abo_leastP hd (by omega), abo_leastH hd (by omega)] at l2
 have f0 := longestE_ok d hd
 have f1 := longestE_ok (besideN d d) hb
 have f2 := longestE_ok (aboveN d d) ha
 rw [(bes_like hd (by omega)).weft, (bes_like hd (by omega)).weft, (bes_like hd (by omega)).warp, (bes_like hd (by omega)).warp] at f1
 rw [(abo_like hd (by omega)).weft, (abo_like hd (by omega)).weft, (abo_like hd (by omega)).warp, (abo_like hd (by omega)).warp] at f2
 have hS : 1 < d.hk → lim F 47 [.agg [iv (reflH d : Int), .list 1 (natsV (mirrorN (reflectN d)).rows)], iv 0, iv 1] = some (.tuple [.agg [iv (reflH d : Int), .own 1 (natsV (reflectN d).rows)], iv 0], []) := fun h => by
  have hH1 : 2 ≤ reflH d := by unfold reflH; omega
  have k := Shift_ok (mirrorN (reflectN d)) hm 0 1 (by omega) hH1
  rw [refl_self hd h hH] at k
  exact k
 obtain ⟨⟨p1, p2, p3⟩, ⟨q1, q2, q3⟩, hat⟩ := least_facts hd
 have hLf := lifted_ok d hd
 have hbeg := fun i hi => refl_begin hd (i := i) hi
 have hrlt : ∀ i, i < d.rows.length → (reflectN d).rows.getD i 0 < 2 ^ 24 := fun i hi => by
  have h1 := hr.lt _ (List.getElem_mem (show i < (reflectN d).rows.length by omega))
  rw [← rows_get (show i < (reflectN d).rows.length by omega)] at h1
  exact Nat.lt_of_lt_of_le h1 (Nat.pow_le_pow_right (by omega) hH)
 have g0 : ∀ i, i < d.rows.length → (natsV d.rows)[i]? = some (iv ((d.rows.getD i 0 : Nat) : Int)) := fun i hi => nats_at hi
 have g1 : ∀ i, i < d.rows.length → (natsV (reflectN d).rows)[i]? = some (iv (((reflectN d).rows.getD i 0 : Nat) : Int)) := fun i hi => nats_at (by omega)
 have n0 : (natsV d.rows).length = d.rows.length := by simp
 have n1 : (natsV (reflectN d).rows).length = d.rows.length := by simp [hrl]
 have n2 : (natsV (mirrorN (reflectN d)).rows).length = d.rows.length := by simp [hml]
 have n3 : (natsV (besideN d d).rows).length = d.rows.length := by simp [bes_len]
 have n4 : (natsV (aboveN d d).rows).length = d.rows.length + d.rows.length := by simp [abo_len]
 have P0 : (natsV d.rows).all AV.plain = true := nat_plain _
 have P1 : (natsV (reflectN d).rows).all AV.plain = true := nat_plain _
 have P2 : (natsV (mirrorN (reflectN d)).rows).all AV.plain = true := nat_plain _
 have P3 : (natsV (besideN d d).rows).all AV.plain = true := nat_plain _
 have P4 : (natsV (aboveN d d).rows).all AV.plain = true := nat_plain _
 have em : (d.hk : Int) + max (0 : Int) ((d.hk : Int) - 2) = (reflH d : Int) := by unfold reflH; omega
 have s1 := w_shl1 d.hk (by omega)
 have u1 : IntKind.wrap .u64 (d.hk : Int) = d.hk := wrap_u64 (by omega) (by omega)
 have hp24 : 2 ^ d.hk ≤ 2 ^ 24 := Nat.pow_le_pow_right (by omega) (by omega)
 have hp0 : 0 < 2 ^ d.hk := Nat.pow_pos (by omega)
 have e3 : ((2 ^ d.hk : Nat) : Int) - 1 = ((2 ^ d.hk - 1 : Nat) : Int) := by omega
 have z1 : Int.tmod (d.rows.length : Int) (leastP d : Int) = 0 := by rw [Int.tmod_eq_emod_of_nonneg (Int.natCast_nonneg _), ← Int.natCast_emod, p3]; rfl
 have z2 : Int.tmod (d.hk : Int) (leastH d : Int) = 0 := by rw [Int.tmod_eq_emod_of_nonneg (Int.natCast_nonneg _), ← Int.natCast_emod, q3]; rfl
 unfold desV at hLf hR hI
 change lim F _ [.agg [_, .list 1 (natsV d.rows)]] = some (.tuple [.agg [iv (reflH d : Int), .own 1 (natsV (reflectN d).rows)], iv 0], []) at k1
 change lim F _ [.agg [iv (reflH d : Int), .list 1 (natsV (reflectN d).rows)]] = some (.tuple [.agg [iv (reflH d : Int), .own 1 (natsV (mirrorN (reflectN d)).rows)], iv 0], []) at k2
 change lim F _ [.agg [iv (d.hk : Int), .list 1 (natsV d.rows)], .agg [iv (d.hk : Int), .list 1 (natsV d.rows)]] = some (.tuple [.agg [iv ((d.hk + d.hk : Nat) : Int), .own 1 (natsV (besideN d d).rows)], iv 0], []) at k3
 change lim F _ [.agg [iv (d.hk : Int), .list 1 (natsV d.rows)], .agg [iv (d.hk : Int), .list 1 (natsV d.rows)]] = some (.tuple [.agg [iv (d.hk : Int), .own 1 (natsV (aboveN d d).rows)], iv 0], []) at k4
 change lim F _ [.agg [iv (reflH d : Int), .list 1 (natsV (reflectN d).rows)], iv (reflH d : Int), _] = _ at hR
 rw [hrl] at hR
 change lim F _ [.agg [iv (reflH d : Int), _], .agg [iv (reflH d : Int), _]] = _ at hI
 change lim F _ [.agg [iv (reflH d : Int), .list 1 (natsV (reflectN d).rows)]] = some (.agg [iv (reflH d : Int), _], []) at o1
 change lim F _ [.agg [iv ((d.hk + d.hk : Nat) : Int), .list 1 (natsV (besideN d d).rows)]] = some (.agg [iv ((d.hk + d.hk : Nat) : Int), _], []) at o2
 change lim F _ [.agg [iv (d.hk : Int), .list 1 (natsV (aboveN d d).rows)]] = some (.agg [iv (d.hk : Int), _], []) at o3
 change lim F _ [.agg [iv (d.hk : Int), .list 1 (natsV d.rows)]] = _ at l0
 change lim F _ [.agg [iv ((d.hk + d.hk : Nat) : Int), .list 1 (natsV (besideN d d).rows)]] = _ at l1
 change lim F _ [.agg [iv (d.hk : Int), .list 1 (natsV (aboveN d d).rows)]] = _ at l2
 change lim F _ [.agg [iv ((d.hk + d.hk : Nat) : Int), .list 1 (natsV (besideN d d).rows)]] = _ at f1
 change lim F _ [.agg [iv (d.hk : Int), .list 1 (natsV (aboveN d d).rows)]] = _ at f2
 clear hb ha hm hml hr
 generalize natsV (mirrorN (reflectN d)).rows = rM at *
 generalize natsV (reflectN d).rows = rR at *
 generalize natsV (besideN d d).rows = rB at *
 generalize natsV (aboveN d d).rows = rA at *
 generalize hrsq : natsV d.rows = rs at *
 generalize mxF false (weftF d) = m1 at *
 generalize mxF true (weftF d) = m2 at *
 generalize mxF true (warpF d) = m3 at *
 generalize mxF false (warpF d) = m4 at *
 generalize reflH d = H at *
 generalize leastP d = lp at *
 generalize leastH d = lh at *
 have t0 : rs.take d.rows.length = rs := List.take_of_length_le (by omega)
 have t1 : rR.take d.rows.length = rR := List.take_of_length_le (by omega)
 have t2 : rM.take d.rows.length = rM := List.take_of_length_le (by omega)
 have t3 : rB.take d.rows.length = rB := List.take_of_length_le (by omega)
 have t4 : rA.take (d.rows.length + d.rows.length) = rA := List.take_of_length_le (by omega)
 have e0 : (natsV d.rows).all AV.plain = true := by rw [hrsq]; exact P0
 unfold PaperB.av at *
 refine lim_by (fn := a13) (k := 1) (res := [.tmp 2]) rfl rfl rfl (by simp -implicitDefEqProofs (maxSteps := 2000000) (disch := first | exact tt_rfl rfl | omega | (simp only [go_sem] <;> omega) | fail) only [go_sem]) ?_
 simp -implicitDefEqProofs (maxSteps := 2000000) (disch := first | exact tt_rfl rfl | omega | (simp only [go_sem] <;> omega) | fail) only [go_sem]
 repeat (first | apply Wp.seqA | apply Wp.skipS | apply Wp.blockS | ((first | apply Wp.regS | apply Wp.condV | apply Wp.reg | apply Wp.condW | apply fin_ret); simp -implicitDefEqProofs (maxSteps := 2000000) (disch := first | exact tt_rfl rfl | omega | (simp only [go_sem] <;> omega) | fail) only [go_sem, hdes, o0, k1, em, hR, n0, n1, P0, P1, t0, t1] <;> try with_reducible rfl) | apply Wp.block | apply Wp.exitS | apply Wp.retS | apply Wp.exit | apply Wp.ret | apply Wp.skip)
 apply Wp.loopF d.rows.length (fun i => ⟨[(3, .ptr 192 0 0), (4, .ptr 256 0 0), (7, iv (i : Int))], [(192, .box [iv (d.hk : Int), .slice 303073 0 d.rows.length]), (256, .box [iv (H : Int), .slice 304097 0 d.rows.length]), (303073, .arr 1 rs), (304097, .arr 1 rR)], [], 10000000⟩) (fun _ => True)
 ·simp -implicitDefEqProofs (maxSteps := 2000000) (disch := first | exact tt_rfl rfl | omega | (simp only [go_sem] <;> omega) | fail) only [go_sem, norm_eq, Ok.some]
  rfl
 ·trivial
 intro i hi _
 by_cases h : i < d.rows.length
 ·have a0 := g0 i h
  have a1 := g1 i h
  have hlt := hrlt i h
  have hbg := hbeg i h
  have w := w_and ((reflectN d).rows.getD i 0) (2 ^ d.hk - 1) (by omega) (by omega)
  rw [hbg] at w
  clear hLf hat hbeg hrlt g0 g1 hS
  generalize (reflectN d).rows.getD i 0 = rr at *
  generalize d.rows.getD i 0 = r at *
  generalize 2 ^ d.hk = pw at *
  repeat (first | apply Wp.seqA | apply Wp.skipS | apply Wp.blockS | ((first | apply Wp.regS | apply Wp.condV | apply Wp.reg | apply Wp.condW | apply fin_ret); simp -implicitDefEqProofs (maxSteps := 2000000) (disch := first | exact tt_rfl rfl | omega | (simp only [go_sem] <;> omega) | fail) only [go_sem, h, Int.ofNat_lt, n0, n1, a0, a1, s1, u1, e3, w, Int.toNat_natCast] <;> try with_reducible rfl) | apply Wp.block | apply Wp.exitS | apply Wp.retS | apply Wp.exit | apply Wp.ret | apply Wp.skip)
  apply round_next
  ·simp -implicitDefEqProofs (maxSteps := 2000000) (disch := first | exact tt_rfl rfl | omega | (simp only [go_sem] <;> omega) | fail) only [go_sem, norm_eq, Ok.some]; with_reducible rfl
  exact ⟨h, by simp, trivial⟩
 ·obtain rfl : i = d.rows.length := by omega
  clear hrlt hbeg g0 g1
  by_cases hk1 : 1 < d.hk
  case' pos =>
   have hS := hS hk1
   repeat (first | apply Wp.seqA | apply Wp.skipS | apply Wp.blockS | ((first | apply Wp.regS | apply Wp.condV | apply Wp.reg | apply Wp.condW | apply fin_ret); simp -implicitDefEqProofs (maxSteps := 2000000) (disch := first | exact tt_rfl rfl | omega | (simp only [go_sem] <;> omega) | fail) only [go_sem, Int.lt_irrefl, o0, o1, o2, o3, k2, k3, k4, hS, hI, l0, l1, l2, f0, f1, f2, z1, z2, n0, n1, n2, n3, n4, P0, P1, P2, P3, P4, t0, t1, t2, t3, t4, show (1 : Int) < (d.hk : Int) by omega, show ¬ (lp : Int) < 1 by omega, show ¬ (lh : Int) < 1 by omega, show (lp : Int) ≠ 0 by omega, show (lh : Int) ≠ 0 by omega] <;> try with_reducible rfl) | apply Wp.block | apply Wp.exitS | apply Wp.retS | apply Wp.exit | apply Wp.ret | apply Wp.skip)
  case' neg =>
   repeat (first | apply Wp.seqA | apply Wp.skipS | apply Wp.blockS | ((first | apply Wp.regS | apply Wp.condV | apply Wp.reg | apply Wp.condW | apply fin_ret); simp -implicitDefEqProofs (maxSteps := 2000000) (disch := first | exact tt_rfl rfl | omega | (simp only [go_sem] <;> omega) | fail) only [go_sem, Int.lt_irrefl, o0, o1, o2, o3, k2, k3, k4, hI, l0, l1, l2, f0, f1, f2, z1, z2, n0, n1, n2, n3, n4, P0, P1, P2, P3, P4, t0, t1, t2, t3, t4, show ¬ (1 : Int) < (d.hk : Int) by omega, show ¬ (lp : Int) < 1 by omega, show ¬ (lh : Int) < 1 by omega, show (lp : Int) ≠ 0 by omega, show (lh : Int) ≠ 0 by omega] <;> try with_reducible rfl) | apply Wp.block | apply Wp.exitS | apply Wp.retS | apply Wp.exit | apply Wp.ret | apply Wp.skip)
  all_goals
   apply Wp.loopF d.rows.length (fun i => ⟨[(3, .ptr 192 0 0), (16, iv (lp : Int)), (17, iv (lh : Int)), (31, iv (i : Int))], [(192, .box [iv (d.hk : Int), .slice 303073 0 d.rows.length]), (303073, .arr 1 rs)], [], 10000000⟩) (fun _ => True)
   ·simp -implicitDefEqProofs (maxSteps := 2000000) (disch := first | exact tt_rfl rfl | omega | (simp only [go_sem] <;> omega) | fail) only [go_sem, norm_eq, Ok.some]
    rfl
   ·trivial
   intro i hi _
   by_cases h : i < d.rows.length
   ·repeat (first | apply Wp.seqA | apply Wp.skipS | apply Wp.blockS | ((first | apply Wp.regS | apply Wp.condV | apply Wp.reg | apply Wp.condW | apply fin_ret); simp -implicitDefEqProofs (maxSteps := 2000000) (disch := first | exact tt_rfl rfl | omega | (simp only [go_sem] <;> omega) | fail) only [go_sem, h, Int.ofNat_lt, n0] <;> try with_reducible rfl) | apply Wp.block | apply Wp.exitS | apply Wp.retS | apply Wp.exit | apply Wp.ret | apply Wp.skip)
    apply Wp.loopF d.hk (fun j => ⟨[(3, .ptr 192 0 0), (16, iv (lp : Int)), (17, iv (lh : Int)), (31, iv (i : Int)), (32, iv (j : Int))], [(192, .box [iv (d.hk : Int), .slice 303073 0 d.rows.length]), (303073, .arr 1 rs)], [], 10000000⟩) (fun _ => True)
    ·simp -implicitDefEqProofs (maxSteps := 2000000) (disch := first | exact tt_rfl rfl | omega | (simp only [go_sem] <;> omega) | fail) only [go_sem, norm_eq, Ok.some]
     rfl
    ·trivial
    intro j hj _
    by_cases h' : j < d.hk
    ·have x1 := hLf i j (by omega) (by omega)
     have y1 := Nat.mod_lt i (show 0 < lp by omega)
     have y2 := Nat.mod_lt j (show 0 < lh by omega)
     have x2 := hLf (i % lp) (j % lh) (by omega) (by omega)
     rw [← hat i j h h'] at x2
     have w1 : Int.tmod (i : Int) (lp : Int) = ((i % lp : Nat) : Int) := by rw [Int.tmod_eq_emod_of_nonneg (Int.natCast_nonneg _)]; simp
     have w2 : Int.tmod (j : Int) (lh : Int) = ((j % lh : Nat) : Int) := by rw [Int.tmod_eq_emod_of_nonneg (Int.natCast_nonneg _)]; simp
     clear hLf hat
     generalize atN d i j = bt at *
     generalize i % lp = ip at *
     generalize j % lh = jp at *
     repeat (first | apply Wp.seqA | apply Wp.skipS | apply Wp.blockS | ((first | apply Wp.regS | apply Wp.condV | apply Wp.reg | apply Wp.condW | apply fin_ret); simp -implicitDefEqProofs (maxSteps := 2000000) (disch := first | exact tt_rfl rfl | omega | (simp only [go_sem] <;> omega) | fail) only [go_sem, h', Int.ofNat_lt, n0, P0, t0, x1, x2, w1, w2, show (lp : Int) ≠ 0 by omega, show (lh : Int) ≠ 0 by omega] <;> try with_reducible rfl) | apply Wp.block | apply Wp.exitS | apply Wp.retS | apply Wp.exit | apply Wp.ret | apply Wp.skip)
     apply round_next
     ·simp -implicitDefEqProofs (maxSteps := 2000000) (disch := first | exact tt_rfl rfl | omega | (simp only [go_sem] <;> omega) | fail) only [go_sem, norm_eq, Ok.some]; with_reducible rfl
     exact ⟨h', by simp, trivial⟩
    ·obtain rfl : j = d.hk := by omega
     repeat (first | apply Wp.seqA | apply Wp.skipS | apply Wp.blockS | ((first | apply Wp.regS | apply Wp.condV | apply Wp.reg | apply Wp.condW | apply fin_ret); simp -implicitDefEqProofs (maxSteps := 2000000) (disch := first | exact tt_rfl rfl | omega | (simp only [go_sem] <;> omega) | fail) only [go_sem, Int.lt_irrefl] <;> try with_reducible rfl) | apply Wp.block | apply Wp.exitS | apply Wp.retS | apply Wp.exit | apply Wp.ret | apply Wp.skip)
     apply round_next
     ·simp -implicitDefEqProofs (maxSteps := 2000000) (disch := first | exact tt_rfl rfl | omega | (simp only [go_sem] <;> omega) | fail) only [go_sem, norm_eq, Ok.some]; with_reducible rfl
     exact ⟨h, by simp, trivial⟩
   ·obtain rfl : i = d.rows.length := by omega
    repeat (first | apply Wp.seqA | apply Wp.skipS | apply Wp.blockS | ((first | apply Wp.regS | apply Wp.condV | apply Wp.reg | apply Wp.condW | apply fin_ret); simp -implicitDefEqProofs (maxSteps := 2000000) (disch := first | exact tt_rfl rfl | omega | (simp only [go_sem] <;> omega) | fail) only [go_sem, Int.lt_irrefl, n0, kn] <;> try with_reducible rfl) | apply Wp.block | apply Wp.exitS | apply Wp.retS | apply Wp.exit | apply Wp.ret | apply Wp.skip)
end Go.Abs
