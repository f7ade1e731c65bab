/-
  PointSides: both sides of any design in bytes.
-/
import Derived.Test.YtkjlmfabhejbnaaM8
import Derived.Test.YtkjlmfabhejbnaaD1
import Derived.Test.YtkjlmfabhejbnaaP6
import Derived.Test.YtkjlmfabhejbnaaKnown
import Derived.Test.YtkjlmfabhejbnaaFlat
set_option linter.all false
namespace Go.Abs
set_option maxRecDepth 10000
set_option maxHeartbeats 8000000

theorem longest_ok (d : DesN) (hd : d.Ok) : lim F 19 [d.av] = some (.tuple [.agg [iv (mxF false (weftF d)), iv (mxF true (weftF d)), iv (mxF true (warpF d)), iv (mxF false (warpF d))], iv 0], []) := by
  have h60 := hd.r60
  have hc := Check_ok d.a (by simp [DesN.a]; omega)
  rw [checkD_ok hd, DesN.a_av] at hc
  have e1 := floats1_ok d
  have e2 := floats2_ok d
  have g1 := weft_guess d hd
  have g2 := warp_guess d hd
  have k1 := weft_check d hd
  have k2 := warp_check d hd
  unfold DesN.av at *
  exact longest_of _ _ _ _ _ hc e1 e2 g1 g2 k1 k2
theorem ownN_ok (d : DesN) (hd : d.Ok) : lim F 16 [d.av] = some (.agg [iv (d.hk : Int), .own 1 (natsV d.rows)], []) := by
  have h60 := hd.r60
  have h := own_ok d.a (by simp [DesN.a]; omega)
  rw [DesN.a_av] at h
  rw [h]
  unfold DesN.a natsV
  dsimp only
  rw [List.map_map]; rfl
theorem av_nats (d : DesN) : d.av = .agg [iv (d.hk : Int), .list 1 (natsV d.rows)] := rfl
theorem out_nats (d : DesN) : d.out = .agg [iv (d.hk : Int), .own 1 (natsV d.rows)] := rfl
theorem sides_main (x : PaperB) (a b m : Nat) (ha : a < 256) (hb : b < 256) (hm : m < 256) : lim F 11 [x.av, .agg [.int .u8 (a : Int), .int .u8 (b : Int)], .int .u8 (m : Int)] = some (.bool true, []) := by
  have kn := known_ok
  have hdes := design_ok x 24 (by omega) (by omega)
  rw [show ((24 : Nat) : Int) = 24 from rfl] at hdes
  have hd := paper_ok x (m := 24) (by omega) (by omega)
  change lim F _ _ = some (AV.agg [_, .own 1 (natsV (paperN x 24).rows)], []) at hdes
  generalize paperN x 24 = d at *
  have h24 := hd.h24
  have h60 := hd.r60
  have hr1 := hd.r1
  have hh1 := hd.h1
  have ea : Int.tmod (a : Int) (d.rows.length : Int) = ((a % d.rows.length : Nat) : Int) := by rw [Int.tmod_eq_emod_of_nonneg (Int.natCast_nonneg _)]; simp
  have eb : Int.tmod (b : Int) (d.hk : Int) = ((b % d.hk : Nat) : Int) := by rw [Int.tmod_eq_emod_of_nonneg (Int.natCast_nonneg _)]; simp
  have em : Int.tmod (m : Int) 30 = ((m % 30 : Nat) : Int) := by rw [Int.tmod_eq_emod_of_nonneg (Int.natCast_nonneg _)]; rfl
  have la := Nat.mod_lt a (show 0 < d.rows.length by omega)
  have lb := Nat.mod_lt b (show 0 < d.hk by omega)
  have lm := Nat.mod_lt m (show 0 < 30 by omega)
  have hb2 := back_ok hd
  have o0 := ownN_ok d hd
  have o1 := ownN_ok (backN d) hb2
  have k1 := Back_ok d hd
  have k2 := Mirror_ok d hd
  have k3 := Flip_ok d hd
  have k4 := Shift_ok d hd _ _ la lb
  have i0 := longest_ok d hd
  have i1 := longest_ok (backN d) hb2
  have i2 := longest_ok (mirrorN d) (mirror_ok hd)
  have i3 := longest_ok (flipN d) (flip_ok hd)
  have i4 := longest_ok (shiftN d (a % d.rows.length) (b % d.hk)) (shift_ok hd _ _)
  rw [back_weft hd, back_warp hd, mxF_neg, mxF_neg, mxF_neg, mxF_neg] at i1
  rw [(mirror_like hd).weft, (mirror_like hd).weft, (mirror_like hd).warp, (mirror_like hd).warp] at i2
  rw [(flip_like hd).weft, (flip_like hd).weft, (flip_like hd).warp, (flip_like hd).warp] at i3
  rw [(shift_like hd la lb).weft, (shift_like hd la lb).weft, (shift_like hd la lb).warp, (shift_like hd la lb).warp] at i4
  have hbm : (0 : Int) ≤ ((m % 30 : Nat) : Int) ∧ ((m % 30 : Nat) : Int) ≤ 1000 := by omega
  have f1 := Floats_weft d hd _ hbm
  have f2 := Floats_warp d hd _ hbm
  have f3 := Floats_weft (backN d) hb2 _ hbm
  have f4 := Floats_warp (backN d) hb2 _ hbm
  rw [back_weft hd, filter_neg] at f3
  rw [back_warp hd, filter_neg] at f4
  have len1 : ((weftF d).filter fun f => decide (((m % 30 : Nat) : Int) < f.len)).length ≤ 60000 := Nat.le_trans (List.length_filter_le _ _) (weft_len hd)
  have len2 : ((warpF d).filter fun f => decide (((m % 30 : Nat) : Int) < f.len)).length ≤ 60000 := Nat.le_trans (List.length_filter_le _ _) (warp_len hd)
  have n0 : (natsV d.rows).length = d.rows.length := by simp
  have n1 : (natsV (backN d).rows).length = d.rows.length := by simp [backN, madeN]
  have n2 : (natsV (mirrorN d).rows).length = d.rows.length := by simp [mirrorN, madeN]
  have n3 : (natsV (flipN d).rows).length = d.rows.length := by simp [flipN, madeN]
  have n4 : (natsV (shiftN d (a % d.rows.length) (b % d.hk)).rows).length = d.rows.length := by simp [shiftN, madeN]
  have p0 := nat_plain d.rows
  have p1 := nat_plain (backN d).rows
  have p2 := nat_plain (mirrorN d).rows
  have p3 := nat_plain (flipN d).rows
  have p4 := nat_plain (shiftN d (a % d.rows.length) (b % d.hk)).rows
  change (natsV d.rows).all AV.plain = true at p0
  change (natsV (backN d).rows).all AV.plain = true at p1
  change (natsV (mirrorN d).rows).all AV.plain = true at p2
  change (natsV (flipN d).rows).all AV.plain = true at p3
  change (natsV (shiftN d (a % d.rows.length) (b % d.hk)).rows).all AV.plain = true at p4
  rw [av_nats] at *
  rw [out_nats] at *
  rw [show (backN d).hk = d.hk from rfl] at *
  rw [show (mirrorN d).hk = d.hk from rfl] at *
  rw [show (flipN d).hk = d.hk from rfl] at *
  rw [show (shiftN d (a % d.rows.length) (b % d.hk)).hk = d.hk from rfl] at *
  generalize natsV (backN d).rows = r1 at *
  generalize natsV (mirrorN d).rows = r2 at *
  generalize natsV (flipN d).rows = r3 at *
  generalize natsV (shiftN d (a % d.rows.length) (b % d.hk)).rows = r4 at *
  generalize natsV d.rows = r0 at *
  generalize (weftF d).filter (fun f => decide (((m % 30 : Nat) : Int) < f.len)) = W at *
  generalize (warpF d).filter (fun f => decide (((m % 30 : Nat) : Int) < f.len)) = H at *
  generalize d.rows.length = N at *
  generalize d.hk = hk at *
  have t0 : r0.take N = r0 := List.take_of_length_le (by omega)
  have t1 : r1.take N = r1 := List.take_of_length_le (by omega)
  have t2 : r2.take N = r2 := List.take_of_length_le (by omega)
  have t3 : r3.take N = r3 := List.take_of_length_le (by omega)
  have t4 : r4.take N = r4 := List.take_of_length_le (by omega)
  clear hd hb2
  unfold PaperB.av at *
  refine lim_by (fn := a11) (k := 3) (res := [.tmp 6]) rfl rfl rfl (by simp -implicitDefEqProofs (maxSteps := 2000000) (disch := first | exact tt_rfl rfl | omega | (simp only [go_sem] <;> omega) | fail) only [go_sem]) ?_
  simp -implicitDefEqProofs (maxSteps := 2000000) (disch := first | exact tt_rfl rfl | omega | (simp only [go_sem] <;> omega) | fail) only [go_sem]
  repeat (first | apply Wp.seqA | apply Wp.skipS | apply Wp.blockS | ((first | apply Wp.regS | apply Wp.condV | apply Wp.reg | apply Wp.condW | apply fin_ret); simp -implicitDefEqProofs (maxSteps := 2000000) (disch := first | exact tt_rfl rfl | omega | (simp only [go_sem] <;> omega) | fail) only [go_sem, hdes, o0, k1, k2, k3, k4, n0, n1, n2, n3, n4, p0, p1, p2, p3, p4, t0, t1, t2, t3, t4, ea, eb, show (N : Int) ≠ 0 by omega, show (hk : Int) ≠ 0 by omega] <;> try with_reducible rfl) | apply Wp.block | apply Wp.exitS | apply Wp.retS | apply Wp.exit | apply Wp.ret | apply Wp.skip)
  apply Wp.loopF 2 (fun k => ⟨[(2, .int .u8 (m : Int)), (7, .ptr 448 0 0), (8, .ptr 512 0 0), (10, .ptr 640 0 0), (12, .ptr 768 0 0), (14, .ptr 896 0 0), (16, iv ((k + 1 : Nat) : Int))], [(448, .box [iv (hk : Int), .slice 307169 0 N]), (512, .box [iv (hk : Int), .slice 308193 0 N]), (640, .box [iv (hk : Int), .slice 310241 0 N]), (768, .box [iv (hk : Int), .slice 312289 0 N]), (896, .box [iv (hk : Int), .slice 314337 0 N]), (307169, .arr 1 r0), (308193, .arr 1 r1), (310241, .arr 1 r2), (312289, .arr 1 r3), (314337, .arr 1 r4)], [], 10000000⟩) (fun _ => True)
  · simp -implicitDefEqProofs (maxSteps := 2000000) (disch := first | exact tt_rfl rfl | omega | (simp only [go_sem] <;> omega) | fail) only [go_sem, norm_eq, Ok.some]
    rfl
  · trivial
  intro k hk2 _
  rcases (show k = 0 ∨ k = 1 ∨ k = 2 by omega) with rfl | rfl | rfl
  · have a1 : (W.map FloatT.av).length = W.length := by simp
    have a2 : ((W.map FloatT.neg).map FloatT.av).length = W.length := by simp
    have c1 := fl_plain W
    have c2 := fl_plain (W.map FloatT.neg)
    have g1 : ∀ j (h : j < W.length), (W.map FloatT.av)[j]? = some (.agg [iv W[j].pick, iv W[j].hook, iv W[j].len, .bool W[j].up]) := fun j h => by
      rw [List.getElem?_map, List.getElem?_eq_getElem h]; rfl
    have g2 : ∀ j (h : j < W.length), ((W.map FloatT.neg).map FloatT.av)[j]? = some (.agg [iv W[j].pick, iv W[j].hook, iv W[j].len, .bool (!W[j].up)]) := fun j h => by
      rw [List.getElem?_map, List.getElem?_map, List.getElem?_eq_getElem h]; rfl
    generalize (W.map FloatT.neg).map FloatT.av = B at *
    generalize hA : W.map FloatT.av = A at *
    rw [show ((0 + 1 : Nat) : Int) = 1 from rfl]
    repeat (first | apply Wp.seqA | apply Wp.skipS | apply Wp.blockS | ((first | apply Wp.regS | apply Wp.condV | apply Wp.reg | apply Wp.condW | apply fin_ret); simp -implicitDefEqProofs (maxSteps := 2000000) (disch := first | exact tt_rfl rfl | omega | (simp only [go_sem] <;> omega) | fail) only [go_sem, o0, o1, f1, f3, n0, n1, p0, p1, t0, t1, em, a1, a2, c1, c2, show ¬ (W.length : Int) ≠ W.length by simp] <;> try with_reducible rfl) | apply Wp.block | apply Wp.exitS | apply Wp.retS | apply Wp.exit | apply Wp.ret | apply Wp.skip)
    apply Wp.loopF W.length (fun j => ⟨[(2, .int .u8 (m : Int)), (7, .ptr 448 0 0), (8, .ptr 512 0 0), (10, .ptr 640 0 0), (12, .ptr 768 0 0), (14, .ptr 896 0 0), (16, iv 1), (17, .slice 1088 0 W.length), (19, .slice 1216 0 W.length), (21, iv (j : Int))], [(448, .box [iv (hk : Int), .slice 307169 0 N]), (512, .box [iv (hk : Int), .slice 308193 0 N]), (640, .box [iv (hk : Int), .slice 310241 0 N]), (768, .box [iv (hk : Int), .slice 312289 0 N]), (896, .box [iv (hk : Int), .slice 314337 0 N]), (1088, .arr 4 A), (1216, .arr 4 B), (307169, .arr 1 r0), (308193, .arr 1 r1), (310241, .arr 1 r2), (312289, .arr 1 r3), (314337, .arr 1 r4)], [], 10000000⟩) (fun _ => True)
    · simp -implicitDefEqProofs (maxSteps := 2000000) (disch := first | exact tt_rfl rfl | omega | (simp only [go_sem] <;> omega) | fail) only [go_sem, norm_eq, Ok.some]
      rfl
    · trivial
    intro j hj _
    by_cases h : j < W.length
    · have h1 := g1 j h
      have h2 := g2 j h
      generalize W[j] = f at *
      repeat (first | apply Wp.seqA | apply Wp.skipS | apply Wp.blockS | ((first | apply Wp.regS | apply Wp.condV | apply Wp.reg | apply Wp.condW | apply fin_ret); simp -implicitDefEqProofs (maxSteps := 2000000) (disch := first | exact tt_rfl rfl | omega | (simp only [go_sem] <;> omega) | fail) only [go_sem, h, Int.ofNat_lt, a1, a2, h1, h2, Bool.not_not, bne_self_eq_false] <;> try with_reducible rfl) | apply Wp.block | apply Wp.exitS | apply Wp.retS | apply Wp.exit | apply Wp.ret | apply Wp.skip)
      apply round_next
      · simp -implicitDefEqProofs (maxSteps := 2000000) (disch := first | exact tt_rfl rfl | omega | (simp only [go_sem] <;> omega) | fail) only [go_sem, norm_eq, Ok.some]; with_reducible rfl
      exact ⟨h, by simp, trivial⟩
    · repeat (first | apply Wp.seqA | apply Wp.skipS | apply Wp.blockS | ((first | apply Wp.regS | apply Wp.condV | apply Wp.reg | apply Wp.condW | apply fin_ret); simp -implicitDefEqProofs (maxSteps := 2000000) (disch := first | exact tt_rfl rfl | omega | (simp only [go_sem] <;> omega) | fail) only [go_sem, h, Int.ofNat_lt, a1, a2] <;> try with_reducible rfl) | apply Wp.block | apply Wp.exitS | apply Wp.retS | apply Wp.exit | apply Wp.ret | apply Wp.skip)
      apply round_next
      · simp -implicitDefEqProofs (maxSteps := 2000000) (disch := first | exact tt_rfl rfl | omega | (simp only [go_sem] <;> omega) | fail) only [go_sem, norm_eq, Ok.some]; with_reducible rfl
      exact ⟨by omega, by simp, trivial⟩
  · have a1 : (H.map FloatT.av).length = H.length := by simp
    have a2 : ((H.map FloatT.neg).map FloatT.av).length = H.length := by simp
    have c1 := fl_plain H
    have c2 := fl_plain (H.map FloatT.neg)
    have g1 : ∀ j (h : j < H.length), (H.map FloatT.av)[j]? = some (.agg [iv H[j].pick, iv H[j].hook, iv H[j].len, .bool H[j].up]) := fun j h => by
      rw [List.getElem?_map, List.getElem?_eq_getElem h]; rfl
    have g2 : ∀ j (h : j < H.length), ((H.map FloatT.neg).map FloatT.av)[j]? = some (.agg [iv H[j].pick, iv H[j].hook, iv H[j].len, .bool (!H[j].up)]) := fun j h => by
      rw [List.getElem?_map, List.getElem?_map, List.getElem?_eq_getElem h]; rfl
    generalize (H.map FloatT.neg).map FloatT.av = B at *
    generalize hA : H.map FloatT.av = A at *
    rw [show ((1 + 1 : Nat) : Int) = 2 from rfl]
    repeat (first | apply Wp.seqA | apply Wp.skipS | apply Wp.blockS | ((first | apply Wp.regS | apply Wp.condV | apply Wp.reg | apply Wp.condW | apply fin_ret); simp -implicitDefEqProofs (maxSteps := 2000000) (disch := first | exact tt_rfl rfl | omega | (simp only [go_sem] <;> omega) | fail) only [go_sem, o0, o1, f2, f4, n0, n1, p0, p1, t0, t1, em, a1, a2, c1, c2, show ¬ (H.length : Int) ≠ H.length by simp] <;> try with_reducible rfl) | apply Wp.block | apply Wp.exitS | apply Wp.retS | apply Wp.exit | apply Wp.ret | apply Wp.skip)
    apply Wp.loopF H.length (fun j => ⟨[(2, .int .u8 (m : Int)), (7, .ptr 448 0 0), (8, .ptr 512 0 0), (10, .ptr 640 0 0), (12, .ptr 768 0 0), (14, .ptr 896 0 0), (16, iv 2), (17, .slice 1088 0 H.length), (19, .slice 1216 0 H.length), (21, iv (j : Int))], [(448, .box [iv (hk : Int), .slice 307169 0 N]), (512, .box [iv (hk : Int), .slice 308193 0 N]), (640, .box [iv (hk : Int), .slice 310241 0 N]), (768, .box [iv (hk : Int), .slice 312289 0 N]), (896, .box [iv (hk : Int), .slice 314337 0 N]), (1088, .arr 4 A), (1216, .arr 4 B), (307169, .arr 1 r0), (308193, .arr 1 r1), (310241, .arr 1 r2), (312289, .arr 1 r3), (314337, .arr 1 r4)], [], 10000000⟩) (fun _ => True)
    · simp -implicitDefEqProofs (maxSteps := 2000000) (disch := first | exact tt_rfl rfl | omega | (simp only [go_sem] <;> omega) | fail) only [go_sem, norm_eq, Ok.some]
      rfl
    · trivial
    intro j hj _
    by_cases h : j < H.length
    · have h1 := g1 j h
      have h2 := g2 j h
      generalize H[j] = f at *
      repeat (first | apply Wp.seqA | apply Wp.skipS | apply Wp.blockS | ((first | apply Wp.regS | apply Wp.condV | apply Wp.reg | apply Wp.condW | apply fin_ret); simp -implicitDefEqProofs (maxSteps := 2000000) (disch := first | exact tt_rfl rfl | omega | (simp only [go_sem] <;> omega) | fail) only [go_sem, h, Int.ofNat_lt, a1, a2, h1, h2, Bool.not_not, bne_self_eq_false] <;> try with_reducible rfl) | apply Wp.block | apply Wp.exitS | apply Wp.retS | apply Wp.exit | apply Wp.ret | apply Wp.skip)
      apply round_next
      · simp -implicitDefEqProofs (maxSteps := 2000000) (disch := first | exact tt_rfl rfl | omega | (simp only [go_sem] <;> omega) | fail) only [go_sem, norm_eq, Ok.some]; with_reducible rfl
      exact ⟨h, by simp, trivial⟩
    · repeat (first | apply Wp.seqA | apply Wp.skipS | apply Wp.blockS | ((first | apply Wp.regS | apply Wp.condV | apply Wp.reg | apply Wp.condW | apply fin_ret); simp -implicitDefEqProofs (maxSteps := 2000000) (disch := first | exact tt_rfl rfl | omega | (simp only [go_sem] <;> omega) | fail) only [go_sem, h, Int.ofNat_lt, a1, a2] <;> try with_reducible rfl) | apply Wp.block | apply Wp.exitS | apply Wp.retS | apply Wp.exit | apply Wp.ret | apply Wp.skip)
      apply round_next
      · simp -implicitDefEqProofs (maxSteps := 2000000) (disch := first | exact tt_rfl rfl | omega | (simp only [go_sem] <;> omega) | fail) only [go_sem, norm_eq, Ok.some]; with_reducible rfl
      exact ⟨by omega, by simp, trivial⟩
  · rw [show ((2 + 1 : Nat) : Int) = 3 from rfl]
    rw [show (!true) = false from rfl, show (!false) = true from rfl] at i1
    generalize mxF false (weftF d) = m1 at *
    generalize mxF true (weftF d) = m2 at *
    generalize mxF true (warpF d) = m3 at *
    generalize mxF false (warpF d) = m4 at *
    repeat (first | apply Wp.seqA | apply Wp.skipS | apply Wp.blockS | ((first | apply Wp.regS | apply Wp.condV | apply Wp.reg | apply Wp.condW | apply fin_ret); simp -implicitDefEqProofs (maxSteps := 2000000) (disch := first | exact tt_rfl rfl | omega | (simp only [go_sem] <;> omega) | fail) only [go_sem, o0, i0, i1, n0, n1, p0, p1, t0, t1, bne_self_eq_false] <;> try with_reducible rfl) | apply Wp.block | apply Wp.exitS | apply Wp.retS | apply Wp.exit | apply Wp.ret | apply Wp.skip)
    apply Wp.loopF 3 (fun q => ⟨[(10, .ptr 640 0 0), (12, .ptr 768 0 0), (14, .ptr 896 0 0), (23, .ptr 1472 0 0), (27, iv (q : Int))], [(640, .box [iv (hk : Int), .slice 310241 0 N]), (768, .box [iv (hk : Int), .slice 312289 0 N]), (896, .box [iv (hk : Int), .slice 314337 0 N]), (1472, .box [iv m1, iv m2, iv m3, iv m4]), (310241, .arr 1 r2), (312289, .arr 1 r3), (314337, .arr 1 r4)], [], 10000000⟩) (fun _ => True)
    · simp -implicitDefEqProofs (maxSteps := 2000000) (disch := first | exact tt_rfl rfl | omega | (simp only [go_sem] <;> omega) | fail) only [go_sem, norm_eq, Ok.some]
      rfl
    · trivial
    intro q hq _
    rcases (show q = 0 ∨ q = 1 ∨ q = 2 ∨ q = 3 by omega) with rfl | rfl | rfl | rfl
    · rw [show ((0 : Nat) : Int) = 0 from rfl]
      repeat (first | apply Wp.seqA | apply Wp.skipS | apply Wp.blockS | ((first | apply Wp.regS | apply Wp.condV | apply Wp.reg | apply Wp.condW | apply fin_ret); simp -implicitDefEqProofs (maxSteps := 2000000) (disch := first | exact tt_rfl rfl | omega | (simp only [go_sem] <;> omega) | fail) only [go_sem, i2, n2, p2, t2, bne_self_eq_false] <;> try with_reducible rfl) | apply Wp.block | apply Wp.exitS | apply Wp.retS | apply Wp.exit | apply Wp.ret | apply Wp.skip)
      apply round_next
      · simp -implicitDefEqProofs (maxSteps := 2000000) (disch := first | exact tt_rfl rfl | omega | (simp only [go_sem] <;> omega) | fail) only [go_sem, norm_eq, Ok.some]; with_reducible rfl
      exact ⟨by omega, by simp, trivial⟩
    · rw [show ((1 : Nat) : Int) = 1 from rfl]
      repeat (first | apply Wp.seqA | apply Wp.skipS | apply Wp.blockS | ((first | apply Wp.regS | apply Wp.condV | apply Wp.reg | apply Wp.condW | apply fin_ret); simp -implicitDefEqProofs (maxSteps := 2000000) (disch := first | exact tt_rfl rfl | omega | (simp only [go_sem] <;> omega) | fail) only [go_sem, i3, n3, p3, t3, bne_self_eq_false] <;> try with_reducible rfl) | apply Wp.block | apply Wp.exitS | apply Wp.retS | apply Wp.exit | apply Wp.ret | apply Wp.skip)
      apply round_next
      · simp -implicitDefEqProofs (maxSteps := 2000000) (disch := first | exact tt_rfl rfl | omega | (simp only [go_sem] <;> omega) | fail) only [go_sem, norm_eq, Ok.some]; with_reducible rfl
      exact ⟨by omega, by simp, trivial⟩
    · rw [show ((2 : Nat) : Int) = 2 from rfl]
      repeat (first | apply Wp.seqA | apply Wp.skipS | apply Wp.blockS | ((first | apply Wp.regS | apply Wp.condV | apply Wp.reg | apply Wp.condW | apply fin_ret); simp -implicitDefEqProofs (maxSteps := 2000000) (disch := first | exact tt_rfl rfl | omega | (simp only [go_sem] <;> omega) | fail) only [go_sem, i4, n4, p4, t4, bne_self_eq_false] <;> try with_reducible rfl) | apply Wp.block | apply Wp.exitS | apply Wp.retS | apply Wp.exit | apply Wp.ret | apply Wp.skip)
      apply round_next
      · simp -implicitDefEqProofs (maxSteps := 2000000) (disch := first | exact tt_rfl rfl | omega | (simp only [go_sem] <;> omega) | fail) only [go_sem, norm_eq, Ok.some]; with_reducible rfl
      exact ⟨by omega, by simp, trivial⟩
    · rw [show ((3 : Nat) : Int) = 3 from rfl]
      repeat (first | apply Wp.seqA | apply Wp.skipS | apply Wp.blockS | ((first | apply Wp.regS | apply Wp.condV | apply Wp.reg | apply Wp.condW | apply fin_ret); simp -implicitDefEqProofs (maxSteps := 2000000) (disch := first | exact tt_rfl rfl | omega | (simp only [go_sem] <;> omega) | fail) only [go_sem, kn] <;> try with_reducible rfl) | apply Wp.block | apply Wp.exitS | apply Wp.retS | apply Wp.exit | apply Wp.ret | apply Wp.skip)
theorem pointSides_ok (x : PaperB) (v : Arr (Fin 256) 2) (m : Int) (hm : 0 ≤ m ∧ m ≤ 255) : lim F 11 [x.av, .agg (v.1.flatMap fun n => [.int .u8 (n.1 : Int)]), .int .u8 m] = some (.bool true, []) := by
  obtain ⟨l, hl⟩ := v
  match l, hl with
  | [a, b], _ =>
    simp only [List.flatMap_cons, List.flatMap_nil, List.append_nil, List.cons_append, List.nil_append]
    obtain ⟨k, rfl⟩ : ∃ k : Nat, m = k := ⟨m.toNat, by omega⟩
    exact sides_main x a.1 b.1 k a.2 b.2 (by omega)
end Go.Abs
