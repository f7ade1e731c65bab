/-
 PointTwice: a design mirrored, flipped, turned and shifted twice.
-/
import Derived.Test.YtkjlmfabhejbnaaDoorB7
import Derived.Test.YtkjlmfabhejbnaaDoorD1

import Derived.Test.YtkjlmfabhejbnaaDoorV3
set_option linter.all false
namespace Go.Abs
set_option maxRecDepth 10000
set_option maxHeartbeats 8000000

theorem ownE_ok (d : DesN) (hd : d.Ok) : lim F 7 [.agg [iv (d.hk : Int), .list 1 (natsV d.rows)]] = some (.agg [iv (d.hk : Int), .own 1 (natsV d.rows)], []) := by
 have h60 := hd.r60
 have h := own_ok d.a (by simp [DesN.a]; omega)
 rw [DesN.a_av] at h
 change lim F _ [.agg [_, .list 1 (natsV d.rows)]] = _ at h
 rw [h]
 unfold DesN.a natsV
 dsimp only
 rw [List.map_map]; rfl
theorem twice_main (kn : lim F 6 [] = some (.bool true, [])) (x : PaperB) (a b p h : Nat) (ba : a < 256) (bb : b < 256) (bp : p < 256) (bh : h < 256) : lim F 4 [x.av, .agg [.int .u8 (a : Int), .int .u8 (b : Int)], .agg [.int .u8 (p : Int), .int .u8 (h : Int)]] = some (.bool true, []) := by
 have hdes := design_ok x 24 (by omega) (by omega)
 rw [show ((24 : Nat) : Int) = 24 from rfl] at hdes
 have hd := paper_ok x (m := 24) (by omega) (by omega)
 change lim F _ _ = some (AV.agg [_, .own 1 (natsV (paperN x 24).rows)], []) at hdes
 generalize paperN x 24 = d at *
 have h24 := hd.h24
 have h60 := hd.r60
 have hr1 := hd.r1
 have hh1 := hd.h1
 have ea : Int.tmod (a : Int) (d.rows.length : Int) = ((a % d.rows.length : Nat) : Int) := by rw [Int.tmod_eq_emod_of_nonneg (Int.natCast_nonneg _)]; simp
 have eb : Int.tmod (b : Int) (d.hk : Int) = ((b % d.hk : Nat) : Int) := by rw [Int.tmod_eq_emod_of_nonneg (Int.natCast_nonneg _)]; simp
 have ep : Int.tmod (p : Int) (d.rows.length : Int) = ((p % d.rows.length : Nat) : Int) := by rw [Int.tmod_eq_emod_of_nonneg (Int.natCast_nonneg _)]; simp
 have eh : Int.tmod (h : Int) (d.hk : Int) = ((h % d.hk : Nat) : Int) := by rw [Int.tmod_eq_emod_of_nonneg (Int.natCast_nonneg _)]; simp
 have la := Nat.mod_lt a (show 0 < d.rows.length by omega)
 have lb := Nat.mod_lt b (show 0 < d.hk by omega)
 have lp := Nat.mod_lt p (show 0 < d.rows.length by omega)
 have lh := Nat.mod_lt h (show 0 < d.hk by omega)
 generalize a % d.rows.length = a' at *
 generalize b % d.hk = b' at *
 generalize p % d.rows.length = p' at *
 generalize h % d.hk = h' at *
 have hm := mirror_ok hd
 have hf := flip_ok hd
 have hb := back_ok hd
 have hs := shift_ok hd a' b'
 have la2 := Nat.mod_lt (d.rows.length - a') (show 0 < d.rows.length by omega)
 have lb2 := Nat.mod_lt (d.hk - b') (show 0 < d.hk by omega)
 have o0 := ownE_ok d hd
 have o1 := ownE_ok (backN d) hb
 have k1 := Mirror_ok d hd
 have k2 := Flip_ok d hd
 have k3 := Back_ok d hd
 have k4 := Shift_ok d hd a' b' la lb
 have k5 := Mirror_ok (mirrorN d) hm
 have k6 := Flip_ok (flipN d) hf
 have k7 := Back_ok (backN d) hb
 have k8 := Shift_ok (shiftN d a' b') hs ((d.rows.length - a') % d.rows.length) ((d.hk - b') % d.hk) (by rw [shi_len]; exact la2) lb2
 rw [mir_twice hd] at k5
 rw [fli_twice hd] at k6
 rw [bac_twice hd] at k7
 rw [shi_twice hd la lb] at k8
 have r1 := right_ok (mirrorN d) hm
 have r2 := right_ok (flipN d) hf
 have r3 := right_ok (backN d) hb
 have r4 := right_ok (shiftN d a' b') hs
 rw [mir_len] at r1
 rw [fli_len] at r2
 rw [bac_len] at r3
 rw [shi_len] at r4
 have l0 := lifted_ok d hd p' h' (by omega) (by omega)
 have l1 := lifted_ok (mirrorN d) hm p' (d.hk - 1 - h') (by omega) (by omega)
 have l2 := lifted_ok (flipN d) hf (d.rows.length - 1 - p') h' (by omega) (by omega)
 have l3 := lifted_ok (backN d) hb p' h' (by omega) (by omega)
 have l4 := lifted_ok (shiftN d a' b') hs (p' + a') (h' + b') (by omega) (by omega)
 rw [mir_at hd, Nat.mod_eq_of_lt (show d.hk - 1 - h' < d.hk by omega), show d.hk - 1 - (d.hk - 1 - h') = h' by omega] at l1
 rw [fli_at hd, Nat.mod_eq_of_lt (show d.rows.length - 1 - p' < d.rows.length by omega), show d.rows.length - 1 - (d.rows.length - 1 - p') = p' by omega] at l2
 rw [bac_at hd] at l3
 rw [shi_on hd la lb lp lh] at l4
 have df := Differ_ok d (backN d) hd hb rfl (bac_len d).symm
 rw [many_back hd _ (Nat.le_refl _)] at df
 have hI := isN_same d (by omega)
 have c1 : (d.rows.length : Int) - (a' : Int) = ((d.rows.length - a' : Nat) : Int) := by omega
 have c2 : (d.hk : Int) - (b' : Int) = ((d.hk - b' : Nat) : Int) := by omega
 have c3 : Int.tmod ((d.rows.length - a' : Nat) : Int) (d.rows.length : Int) = (((d.rows.length - a') % d.rows.length : Nat) : Int) := by rw [Int.tmod_eq_emod_of_nonneg (Int.natCast_nonneg _)]; simp
 have c4 : Int.tmod ((d.hk - b' : Nat) : Int) (d.hk : Int) = (((d.hk - b') % d.hk : Nat) : Int) := by rw [Int.tmod_eq_emod_of_nonneg (Int.natCast_nonneg _)]; simp
 have c5 : (d.hk : Int) - 1 - (h' : Int) = ((d.hk - 1 - h' : Nat) : Int) := by omega
 have c6 : (d.rows.length : Int) - 1 - (p' : Int) = ((d.rows.length - 1 - p' : Nat) : Int) := by omega
 have c7 : (p' : Int) + (a' : Int) = ((p' + a' : Nat) : Int) := by omega
 have c8 : (h' : Int) + (b' : Int) = ((h' + b' : Nat) : Int) := by omega
 have c9 : (d.rows.length : Int) * (d.hk : Int) = ((d.rows.length * d.hk : Nat) : Int) := by simp
 have hmul : d.rows.length * d.hk ≤ 60 * 24 := Nat.mul_le_mul (by omega) (by omega)
 have n0 : (natsV d.rows).length = d.rows.length := by simp
 have n1 : (natsV (mirrorN d).rows).length = d.rows.length := by simp [mir_len]
 have n2 : (natsV (flipN d).rows).length = d.rows.length := by simp [fli_len]
 have n3 : (natsV (backN d).rows).length = d.rows.length := by simp [bac_len]
 have n4 : (natsV (shiftN d a' b').rows).length = d.rows.length := by simp [shi_len]
 have P0 : (natsV d.rows).all AV.plain = true := nat_plain _
 have P1 : (natsV (mirrorN d).rows).all AV.plain = true := nat_plain _
 have P2 : (natsV (flipN d).rows).all AV.plain = true := nat_plain _
 have P3 : (natsV (backN d).rows).all AV.plain = true := nat_plain _
 have P4 : (natsV (shiftN d a' b').rows).all AV.plain = true := nat_plain _
 unfold desV at *
 change lim F _ [.agg [iv (d.hk : Int), .list 1 (natsV d.rows)]] = some (.tuple [.agg [iv (d.hk : Int), .own 1 (natsV (mirrorN d).rows)], iv 0], []) at k1
 change lim F _ [.agg [iv (d.hk : Int), .list 1 (natsV d.rows)]] = some (.tuple [.agg [iv (d.hk : Int), .own 1 (natsV (flipN d).rows)], iv 0], []) at k2
 change lim F _ [.agg [iv (d.hk : Int), .list 1 (natsV d.rows)]] = some (.tuple [.agg [iv (d.hk : Int), .own 1 (natsV (backN d).rows)], iv 0], []) at k3
 change lim F _ [.agg [iv (d.hk : Int), .list 1 (natsV d.rows)], _, _] = some (.tuple [.agg [iv (d.hk : Int), .own 1 (natsV (shiftN d a' b').rows)], iv 0], []) at k4
 change lim F _ [.agg [iv (d.hk : Int), .list 1 (natsV (mirrorN d).rows)]] = some (.tuple [.agg [iv (d.hk : Int), .own 1 (natsV d.rows)], iv 0], []) at k5
 change lim F _ [.agg [iv (d.hk : Int), .list 1 (natsV (flipN d).rows)]] = some (.tuple [.agg [iv (d.hk : Int), .own 1 (natsV d.rows)], iv 0], []) at k6
 change lim F _ [.agg [iv (d.hk : Int), .list 1 (natsV (backN d).rows)]] = some (.tuple [.agg [iv (d.hk : Int), .own 1 (natsV d.rows)], iv 0], []) at k7
 change lim F _ [.agg [iv (d.hk : Int), .list 1 (natsV (shiftN d a' b').rows)], _, _] = some (.tuple [.agg [iv (d.hk : Int), .own 1 (natsV d.rows)], iv 0], []) at k8
 change lim F _ [.agg [iv (d.hk : Int), .list 1 (natsV (backN d).rows)]] = some (.agg [iv (d.hk : Int), .own 1 (natsV (backN d).rows)], []) at o1
 change lim F _ [.agg [iv (d.hk : Int), .list 1 (natsV (mirrorN d).rows)], iv (d.hk : Int), _] = _ at r1
 change lim F _ [.agg [iv (d.hk : Int), .list 1 (natsV (flipN d).rows)], iv (d.hk : Int), _] = _ at r2
 change lim F _ [.agg [iv (d.hk : Int), .list 1 (natsV (backN d).rows)], iv (d.hk : Int), _] = _ at r3
 change lim F _ [.agg [iv (d.hk : Int), .list 1 (natsV (shiftN d a' b').rows)], iv (d.hk : Int), _] = _ at r4
 change lim F _ [.agg [iv (d.hk : Int), .list 1 (natsV (mirrorN d).rows)], _, _] = _ at l1
 change lim F _ [.agg [iv (d.hk : Int), .list 1 (natsV (flipN d).rows)], _, _] = _ at l2
 change lim F _ [.agg [iv (d.hk : Int), .list 1 (natsV (backN d).rows)], _, _] = _ at l3
 change lim F _ [.agg [iv (d.hk : Int), .list 1 (natsV (shiftN d a' b').rows)], _, _] = _ at l4
 change lim F _ [.agg [iv (d.hk : Int), .list 1 (natsV d.rows)], .agg [iv (d.hk : Int), .list 1 (natsV (backN d).rows)]] = _ at df
 clear hm hf hb hs hd
 generalize natsV (mirrorN d).rows = m1 at *
 generalize natsV (flipN d).rows = m2 at *
 generalize natsV (shiftN d a' b').rows = m4 at *
 generalize (firstT d (backN d) d.rows.length).1 = f1 at *
 generalize (firstT d (backN d) d.rows.length).2 = f2 at *
 generalize natsV (backN d).rows = m3 at *
 generalize natsV d.rows = m0 at *
 generalize atN d p' h' = bt at *
 generalize d.rows.length = N at *
 generalize d.hk = hk at *
 have t0 : m0.take N = m0 := List.take_of_length_le (by omega)
 have t1 : m1.take N = m1 := List.take_of_length_le (by omega)
 have t2 : m2.take N = m2 := List.take_of_length_le (by omega)
 have t3 : m3.take N = m3 := List.take_of_length_le (by omega)
 have t4 : m4.take N = m4 := List.take_of_length_le (by omega)
 have b1 : ((!bt) == bt) = false := by cases bt <;> rfl
 have b2 : (bt == bt) = true := by cases bt <;> rfl
 unfold PaperB.av at *
 refine lim_by (fn := a4) (k := 3) (res := [.tmp 6]) rfl rfl rfl (by simp -implicitDefEqProofs (maxSteps := 2000000) (disch := first | exact tt_rfl rfl | omega | (simp only [go_sem] <;> omega) | fail) only [go_sem]) ?_
 simp -implicitDefEqProofs (maxSteps := 2000000) (disch := first | exact tt_rfl rfl | omega | (simp only [go_sem] <;> omega) | fail) only [go_sem]
 repeat (first | apply Wp.seqA | apply Wp.skipS | apply Wp.blockS | ((first | apply Wp.regS | apply Wp.condV | apply Wp.reg | apply Wp.condW | apply fin_ret); simp -implicitDefEqProofs (maxSteps := 2000000) (disch := first | exact tt_rfl rfl | omega | (simp only [go_sem] <;> omega) | fail) only [go_sem, hdes, o0, o1, k1, k2, k3, k4, k5, k6, k7, k8, r1, r2, r3, r4, l0, l1, l2, l3, l4, df, hI, n0, n1, n2, n3, n4, P0, P1, P2, P3, P4, t0, t1, t2, t3, t4, ea, eb, ep, eh, c1, c2, c3, c4, c5, c6, c7, c8, c9, b1, b2, kn, show (N : Int) ≠ 0 by omega, show (hk : Int) ≠ 0 by omega] <;> try with_reducible rfl) | apply Wp.block | apply Wp.exitS | apply Wp.retS | apply Wp.exit | apply Wp.ret | apply Wp.skip)
end Go.Abs
