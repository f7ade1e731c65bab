/-
  BeamNearer: behind the other wheels.
-/
import Derived.Test.YtbmihapnaclidaaN11
import Derived.Test.YtbmihapnaclidaaKnown
import Derived.Test.YtbmihapnaclidaaFlat
set_option linter.all false
namespace Go.Abs
set_option maxRecDepth 10000
set_option maxHeartbeats 8000000

theorem eInts_ok (l : List Int) (hl : l.length < 1000000) : lim F 23 [.list 1 (l.map fun n => iv n)] = some (.own 1 (l.map fun n => iv n), []) := by
  refine lim_by (fn := a23) (k := 1) (res := [.tmp 2]) rfl rfl rfl (by simp -implicitDefEqProofs (maxSteps := 2000000) (disch := first | exact tt_rfl rfl | omega | (simp only [go_sem] <;> omega) | fail) only [go_sem]) ?_
  simp -implicitDefEqProofs (maxSteps := 2000000) (disch := first | exact tt_rfl rfl | omega | (simp only [go_sem] <;> omega) | fail) only [go_sem]
  repeat (first | apply Wp.seqA | apply Wp.skipS | apply Wp.blockS | ((first | apply Wp.regS | apply Wp.condV | apply Wp.reg | apply Wp.condW | apply fin_ret); simp -implicitDefEqProofs (maxSteps := 2000000) (disch := first | exact tt_rfl rfl | omega | (simp only [go_sem] <;> omega) | fail) only [go_sem] <;> try with_reducible rfl) | apply Wp.block | apply Wp.exitS | apply Wp.retS | apply Wp.exit | apply Wp.ret | apply Wp.skip)
theorem mul_in {a b x y : Int} (h1 : 0 ≤ a ∧ a ≤ x) (h2 : 0 ≤ b ∧ b ≤ y) : 0 ≤ a * b ∧ a * b ≤ x * y :=
  ⟨Int.mul_nonneg h1.1 h2.1, Int.mul_le_mul h1.2 h2.2 h2.1 (Int.le_trans h1.1 h1.2)⟩
theorem nearer_tail (t : TakeA) (ws : List Int) (L p : Nat) (wn wd : Int) (v0 v1 v2 v3 v4 v5 : Fin 256) (b : WheelA) (i : Nat) (qs : List P2) (hs : ShopOk t ws) (hL : L = ws.length) (hw : WantOk wn wd) (hp : p ≤ 2) (hb : b = nearestW t ws wn wd p) (hq : Others v4.1 L i qs) (hqL : 2 * i ≤ L) (hip : i ≤ p) :
    Wp (lim F) (backC 9 (backC 3 a9.body)) ⟨[(5, .ptr 320 0 0), (7, .ptr 448 0 0), (8, .slice 512 0 L), (10, .ptr 640 0 0), (11, iv p), (13, .ptr 832 0 0), (19, .slice 1216 0 (2 * i)), (20, iv (2 * (i : Int))), (165, .bool false)], [(320, .box [.int .u8 (v0.1 : Int), .int .u8 (v1.1 : Int), .int .u8 (v2.1 : Int), .int .u8 (v3.1 : Int), .int .u8 (v4.1 : Int), .int .u8 (v5.1 : Int)]), (448, .box [iv t.rat, iv t.step, .slice 307170 0 t.pairs.length, iv t.round]), (512, .arr 1 (ws.map fun n => iv n)), (640, .box [iv wn, iv wd]), (832, .box [iv (nT (wheelT b)), iv (dT (wheelT b))]), (1216, .arr 1 (nsL qs)), (307170, .arr 2 (t.pairs.map PairT.av))], [], 10000384⟩ (finR [.tmp 6] (.bool true, [])) := by
  have kn := known_ok
  have hc := hs.c
  have b4 := v4.2
  have b5 := v5.2
  have hL8 : L ≤ 8 := by rw [hL]; exact hs.l
  have hwl : (ws.map fun n => iv n).length = L := by simp [hL]
  have tk : (ws.map fun n => iv n).take L = ws.map fun n => iv n := List.take_of_length_le (by omega)
  have hbt := nearest_tried (t := t) (shop := ws) wn wd p
  rw [← hb] at hbt
  have hbc : checkT (wheelT b) = 0 := by
    obtain ⟨k, hk, hg⟩ := tried_good hbt
    exact good_check hs hg (by omega)
  have nb := nT_bound hbc
  have e5 := tmod_nat v5.1 4
  rw [show ((4 : Nat) : Int) = 4 from rfl] at e5
  have hql : (nsL qs).length = 2 * i := by rw [nsL_len, hq.l]
  have o1 : ∀ m, m ≤ i → ∃ os : List P2, (nsL qs).take (2 * m) = nsL os ∧ os.length = m ∧ Picked ws os := fun m hm => by
    refine ⟨qs.take m, by rw [nsL_map, ← List.map_take, nsI_take, ← nsL_map], by rw [List.length_take, hq.l]; omega, ?_⟩
    rw [hL] at hq
    exact (hq.picked (by omega)).take m
  have d4 : Int.tdiv ((2 * i : Nat) : Int) 4 = ((i / 2 : Nat) : Int) := by
    have := tdiv_nat (2 * i) 4
    rw [show ((4 : Nat) : Int) = 4 from rfl] at this
    rw [this]; congr 1; omega
  have d5 : (((i / 2 : Nat) : Int) * 2 - 0).toNat = 2 * (i / 2) := by omega
  have ho := own_ok t (by have := (checkT_zero hc).1; omega)
  have hi := eInts_ok ws (by omega)
  have hpl0 : (t.pairs.map PairT.av).all AV.plain = true := by simp [PairT.av, AV.plain, AV.plain1]
  unfold TakeA.av at ho
  obtain ⟨A, hA⟩ : ∃ A, A = awT wn wd b := ⟨_, rfl⟩
  have aw2 := away1_ok (nT (wheelT b)) (dT (wheelT b)) wn wd ⟨nb.1.1, nb.1.2, nb.2.1, nb.2.2, hw.1.1, hw.1.2, hw.2.1, hw.2.2⟩
  have aA : A ≤ 2500000000000 := by rw [hA]; exact FarOk.away (n := nT (wheelT b)) ⟨nb.1.1, nb.1.2, nb.2.1, nb.2.2, hw.1.1, hw.1.2, hw.2.1, hw.2.2⟩
  rw [show awayN (nT (wheelT b)) (dT (wheelT b)) wn wd = A from hA.symm] at aw2
  refine Wp.cutP (fun fr => ∃ m os, (nsL qs).take (2 * m) = nsL os ∧ os.length = m ∧ Picked ws os ∧ m ≤ i ∧ norm [5, 7, 8, 10, 11, 13, 19] fr = some ⟨[(5, .ptr 320 0 0), (7, .ptr 448 0 0), (8, .slice 512 0 L), (10, .ptr 640 0 0), (11, iv p), (13, .ptr 832 0 0), (19, .slice 1216 0 (2 * m))], [(320, .box [.int .u8 (v0.1 : Int), .int .u8 (v1.1 : Int), .int .u8 (v2.1 : Int), .int .u8 (v3.1 : Int), .int .u8 (v4.1 : Int), .int .u8 (v5.1 : Int)]), (448, .box [iv t.rat, iv t.step, .slice 307170 0 t.pairs.length, iv t.round]), (512, .arr 1 (ws.map fun n => iv n)), (640, .box [iv wn, iv wd]), (832, .box [iv (nT (wheelT b)), iv (dT (wheelT b))]), (1216, .arr 1 (nsL qs)), (307170, .arr 2 (t.pairs.map PairT.av))], [], 10000000⟩) 1 _ _ ?_ ?_
  · dsimp only [a9, backC, frontC]
    iterate 2 (first | apply Wp.seqA | apply Wp.skipS | apply Wp.blockS | ((first | apply Wp.regS | apply Wp.condV | apply Wp.reg | apply Wp.condW); · (simp -implicitDefEqProofs (maxSteps := 2000000) (disch := first | exact tt_rfl rfl | omega | (simp only [go_sem] <;> omega) | fail) only [go_sem, e5]; with_reducible rfl)) | apply Wp.block | apply Wp.exitS | apply Wp.retS | apply Wp.exit | apply Wp.ret | apply Wp.skip | (apply fin_ret; simp -implicitDefEqProofs (maxSteps := 2000000) (disch := first | exact tt_rfl rfl | omega | (simp only [go_sem] <;> omega) | fail) only [go_sem, e5]))
    generalize decide (_ = (0 : Int)) = qb
    cases qb
    · obtain ⟨os, oe, ol, op⟩ := o1 i (Nat.le_refl i)
      repeat (first | apply Wp.seqA | apply Wp.skipS | apply Wp.blockS | ((first | apply Wp.regS | apply Wp.condV | apply Wp.reg | apply Wp.condW | apply fin_ret); simp -implicitDefEqProofs (maxSteps := 2000000) (disch := first | exact tt_rfl rfl | omega | (simp only [go_sem] <;> omega) | fail) only [go_sem] <;> try with_reducible rfl) | apply Wp.block | apply Wp.exitS | apply Wp.retS | apply Wp.exit | apply Wp.ret | apply Wp.skip)
      refine ⟨rfl, i, os, oe, ol, op, Nat.le_refl i, ?_⟩
      simp -implicitDefEqProofs (maxSteps := 2000000) (disch := first | exact tt_rfl rfl | omega | (simp only [go_sem] <;> omega) | fail) only [go_sem, norm_eq, Ok.some]
      try rfl
    · obtain ⟨os, oe, ol, op⟩ := o1 (i / 2) (by omega)
      repeat (first | apply Wp.seqA | apply Wp.skipS | apply Wp.blockS | ((first | apply Wp.regS | apply Wp.condV | apply Wp.reg | apply Wp.condW | apply fin_ret); simp -implicitDefEqProofs (maxSteps := 2000000) (disch := first | exact tt_rfl rfl | omega | (simp only [go_sem] <;> omega) | fail) only [go_sem, hql, d4, d5] <;> try with_reducible rfl) | apply Wp.block | apply Wp.exitS | apply Wp.retS | apply Wp.exit | apply Wp.ret | apply Wp.skip)
      refine ⟨rfl, i / 2, os, oe, ol, op, by omega, ?_⟩
      simp -implicitDefEqProofs (maxSteps := 2000000) (disch := first | exact tt_rfl rfl | omega | (simp only [go_sem] <;> omega) | fail) only [go_sem, norm_eq, Ok.some]
      try rfl
  rintro fr' ⟨m, os, oe, ol, op, hm, hno⟩
  dsimp only [a9, backC]
  apply Wp.seqA
  apply Wp.meetS hno
  clear hno o1 d4 d5 e5
  refine Wp.cutP (fun fr => norm [5, 7, 8, 10, 11, 13] fr = some ⟨[(5, .ptr 320 0 0), (7, .ptr 448 0 0), (8, .slice 512 0 L), (10, .ptr 640 0 0), (11, iv p), (13, .ptr 832 0 0)], [(320, .box [.int .u8 (v0.1 : Int), .int .u8 (v1.1 : Int), .int .u8 (v2.1 : Int), .int .u8 (v3.1 : Int), .int .u8 (v4.1 : Int), .int .u8 (v5.1 : Int)]), (448, .box [iv t.rat, iv t.step, .slice 307170 0 t.pairs.length, iv t.round]), (512, .arr 1 (ws.map fun n => iv n)), (640, .box [iv wn, iv wd]), (832, .box [iv (nT (wheelT b)), iv (dT (wheelT b))]), (307170, .arr 2 (t.pairs.map PairT.av))], [], 10000000⟩) 3 _ _ ?_ ?_
  · dsimp only [frontC]
    have hot := picked_tried (t := t) (p := p) (by omega) op
    obtain ⟨o, hoo⟩ : ∃ o : WheelA, o = ⟨t, ws, os⟩ := ⟨_, rfl⟩
    have ow := with1_ok t ws os op (by omega) (by omega)
    rw [← hoo] at hot ow
    have oc : checkT (wheelT o) = 0 := by
      obtain ⟨k, hk, hg⟩ := tried_good hot
      exact good_check hs hg (by omega)
    have opp := parts_ok (wheelT o) oc
    have otk := Take_ok (wheelT o)
    rw [if_pos oc, oc] at otk
    have hWt : wheelT o = ⟨t.rat, t.step, (wheelT o).pairs, t.round⟩ := by rw [hoo]; rfl
    unfold TakeA.av at ow opp otk
    unfold takeV at otk
    rw [show (wheelT o).rat = t.rat by rw [hWt], show (wheelT o).step = t.step by rw [hWt], show (wheelT o).round = t.round by rw [hWt]] at opp otk
    clear hWt
    have no := nT_bound oc
    have mo := numT_bound oc
    have hle := le_parts (wn := wn) (wd := wd) oc (by omega) (hb ▸ nearest_le hs hp wn wd hot)
    have aw1 := away1_ok (numT (wheelT o)) (denT (wheelT o)) wn wd ⟨mo.1.1, mo.1.2, mo.2.1, mo.2.2, hw.1.1, hw.1.2, hw.2.1, hw.2.2⟩
    have aB := FarOk.away (n := numT (wheelT o)) (d := denT (wheelT o)) (wn := wn) (wd := wd) ⟨mo.1.1, mo.1.2, mo.2.1, mo.2.2, hw.1.1, hw.1.2, hw.2.1, hw.2.2⟩
    rw [← hA] at hle
    have hmet := met_eq hs hp hot
    have hpl : ((wheelT o).pairs.map PairT.av).all AV.plain = true := by simp [PairT.av, AV.plain, AV.plain1]
    have x1 := mul_in (a := (A : Int)) (b := denT (wheelT o)) (x := 2500000000000) (y := 1000000) (by omega) (by omega)
    have x2 := mul_in (a := ((awayN (numT (wheelT o)) (denT (wheelT o)) wn wd : Nat) : Int)) (b := dT (wheelT b)) (x := 2500000000000) (y := 1000000) (by omega) (by omega)
    generalize (wheelT o).pairs.map PairT.av = wp at ow opp hpl otk
    generalize awayN (numT (wheelT o)) (denT (wheelT o)) wn wd = B at *
    generalize numT (wheelT o) = n1 at *
    generalize denT (wheelT o) = d1 at *
    generalize nT (wheelT o) = n2 at *
    generalize dT (wheelT o) = d2 at *
    generalize hX : (B : Int) * dT (wheelT b) = X at *
    generalize hY : (A : Int) * d1 = Y at *
    by_cases k1 : n2 ≤ 1000000
    · by_cases k2 : d2 ≤ 100
      · obtain ⟨q, hN, R, rfl, hR⟩ := Nearest_ok t ws n2 d2 p hs ⟨⟨by omega, k1⟩, by omega, k2⟩ hp
        have hbe : bestOf n2 d2 ⟨t, ws, []⟩ (upTo ⟨t, ws, []⟩ p) = nearestW t ws n2 d2 p := rfl
        rw [hbe] at hN hR
        unfold takeV at hN
        unfold TakeA.av at hN
        rw [hmet.1, hmet.2] at hN
        generalize (nearestW t ws n2 d2 p).ps = ps2 at hR
        rcases hR with ⟨rfl, hnil⟩ | rfl
        · repeat (first | apply Wp.seqA | apply Wp.skipS | apply Wp.blockS | ((first | apply Wp.regS | apply Wp.condV | apply Wp.reg | apply Wp.condW | apply fin_ret); simp -implicitDefEqProofs (maxSteps := 2000000) (disch := first | exact tt_rfl rfl | omega | (simp only [go_sem] <;> omega) | fail) only [go_sem, oe, hql, tk, hwl, List.take_length, ow, opp, hpl, aw1, aw2, hX, hY, show ¬ X < Y by omega, otk, k1, k2, ho, hi, hN, bne_self_eq_false, beq_self_eq_true] <;> try with_reducible rfl) | apply Wp.block | apply Wp.exitS | apply Wp.retS | apply Wp.exit | apply Wp.ret | apply Wp.skip)
          refine ⟨rfl, ?_⟩
          simp -implicitDefEqProofs (maxSteps := 2000000) (disch := first | exact tt_rfl rfl | omega | (simp only [go_sem] <;> omega) | fail) only [go_sem, norm_eq, Ok.some]
          try rfl
        · repeat (first | apply Wp.seqA | apply Wp.skipS | apply Wp.blockS | ((first | apply Wp.regS | apply Wp.condV | apply Wp.reg | apply Wp.condW | apply fin_ret); simp -implicitDefEqProofs (maxSteps := 2000000) (disch := first | exact tt_rfl rfl | omega | (simp only [go_sem] <;> omega) | fail) only [go_sem, oe, hql, tk, hwl, List.take_length, ow, opp, hpl, aw1, aw2, hX, hY, show ¬ X < Y by omega, otk, k1, k2, ho, hi, hN, bne_self_eq_false, beq_self_eq_true] <;> try with_reducible rfl) | apply Wp.block | apply Wp.exitS | apply Wp.retS | apply Wp.exit | apply Wp.ret | apply Wp.skip)
          refine ⟨rfl, ?_⟩
          simp -implicitDefEqProofs (maxSteps := 2000000) (disch := first | exact tt_rfl rfl | omega | (simp only [go_sem] <;> omega) | fail) only [go_sem, norm_eq, Ok.some]
          try rfl
      · repeat (first | apply Wp.seqA | apply Wp.skipS | apply Wp.blockS | ((first | apply Wp.regS | apply Wp.condV | apply Wp.reg | apply Wp.condW | apply fin_ret); simp -implicitDefEqProofs (maxSteps := 2000000) (disch := first | exact tt_rfl rfl | omega | (simp only [go_sem] <;> omega) | fail) only [go_sem, oe, hql, tk, hwl, List.take_length, ow, opp, hpl, aw1, aw2, hX, hY, show ¬ X < Y by omega, otk, k1, k2, bne_self_eq_false] <;> try with_reducible rfl) | apply Wp.block | apply Wp.exitS | apply Wp.retS | apply Wp.exit | apply Wp.ret | apply Wp.skip)
        refine ⟨rfl, ?_⟩
        simp -implicitDefEqProofs (maxSteps := 2000000) (disch := first | exact tt_rfl rfl | omega | (simp only [go_sem] <;> omega) | fail) only [go_sem, norm_eq, Ok.some]
        try rfl
    · repeat (first | apply Wp.seqA | apply Wp.skipS | apply Wp.blockS | ((first | apply Wp.regS | apply Wp.condV | apply Wp.reg | apply Wp.condW | apply fin_ret); simp -implicitDefEqProofs (maxSteps := 2000000) (disch := first | exact tt_rfl rfl | omega | (simp only [go_sem] <;> omega) | fail) only [go_sem, oe, hql, tk, hwl, List.take_length, ow, opp, hpl, aw1, aw2, hX, hY, show ¬ X < Y by omega, otk, k1, bne_self_eq_false] <;> try with_reducible rfl) | apply Wp.block | apply Wp.exitS | apply Wp.retS | apply Wp.exit | apply Wp.ret | apply Wp.skip)
      refine ⟨rfl, ?_⟩
      simp -implicitDefEqProofs (maxSteps := 2000000) (disch := first | exact tt_rfl rfl | omega | (simp only [go_sem] <;> omega) | fail) only [go_sem, norm_eq, Ok.some]
      try rfl
  intro fr' hno
  dsimp only [backC]
  apply Wp.seqA
  apply Wp.seqA
  apply Wp.meetS hno
  clear hno
  refine Wp.cutP (fun fr => norm [7, 8, 10, 11, 13] fr = some ⟨[(7, .ptr 448 0 0), (8, .slice 512 0 L), (10, .ptr 640 0 0), (11, iv p), (13, .ptr 832 0 0)], [(448, .box [iv t.rat, iv t.step, .slice 307170 0 t.pairs.length, iv t.round]), (512, .arr 1 (ws.map fun n => iv n)), (640, .box [iv wn, iv wd]), (832, .box [iv (nT (wheelT b)), iv (dT (wheelT b))]), (307170, .arr 2 (t.pairs.map PairT.av))], [], 10000000⟩) 2 _ _ ?_ ?_
  · dsimp only [frontC]
    by_cases k1 : L < 8
    · have t1 := teeth1_ok v4
      have hs' : ShopOk t (ws ++ [teethN v4]) := ⟨hc, by simp; omega, fun n hn => by
        rcases List.mem_append.1 hn with hn | hn
        · exact hs.s n hn
        · rw [List.mem_singleton.1 hn]; exact teethN_in v4⟩
      obtain ⟨q, hN, R, rfl, hR⟩ := Nearest_ok t (ws ++ [teethN v4]) wn wd p hs' hw hp
      have hbe : bestOf wn wd ⟨t, ws ++ [teethN v4], []⟩ (upTo ⟨t, ws ++ [teethN v4], []⟩ p) = nearestW t (ws ++ [teethN v4]) wn wd p := rfl
      rw [hbe] at hN hR
      have hle := nearest_wider (teethN v4) hs hs' hp wn wd
      have hgt := nearest_tried (t := t) (shop := ws ++ [teethN v4]) wn wd p
      rw [← hb] at hle
      generalize nearestW t (ws ++ [teethN v4]) wn wd p = o at *
      have oc : checkT (wheelT o) = 0 := by
        obtain ⟨k, hk, hg⟩ := tried_good hgt
        exact good_check hs' hg (by omega)
      have no := nT_bound oc
      have hle' := le_int (wn := wn) (wd := wd) (by omega) (by omega) hle
      rw [← hA] at hle'
      have hfi := fine_ok (nT (wheelT o)) (dT (wheelT o)) no.1 no.2
      have aw1 := away1_ok (nT (wheelT o)) (dT (wheelT o)) wn wd ⟨no.1.1, no.1.2, no.2.1, no.2.2, hw.1.1, hw.1.2, hw.2.1, hw.2.2⟩
      have aB := FarOk.away (n := nT (wheelT o)) (d := dT (wheelT o)) (wn := wn) (wd := wd) ⟨no.1.1, no.1.2, no.2.1, no.2.2, hw.1.1, hw.1.2, hw.2.1, hw.2.2⟩
      have eB : awayN (nT (wheelT o)) (dT (wheelT o)) wn wd = awT wn wd o := rfl
      rw [eB] at aw1 aB
      have x1 := mul_in (a := (A : Int)) (b := dT (wheelT o)) (x := 2500000000000) (y := 1000000) (by omega) (by omega)
      have x2 := mul_in (a := ((awT wn wd o : Nat) : Int)) (b := dT (wheelT b)) (x := 2500000000000) (y := 1000000) (by omega) (by omega)
      have hl1 : (ws.map (fun n => iv n) ++ [iv (teethN v4)]).take (L + 1) = ws.map (fun n => iv n) ++ [iv (teethN v4)] := List.take_of_length_le (by simp; omega)
      unfold takeV at hN
      unfold TakeA.av at hN
      rw [List.map_append, List.map_cons, List.map_nil] at hN
      clear hle hgt eB
      generalize o.ps = ps2 at hR
      generalize awT wn wd o = B at *
      generalize nT (wheelT o) = n2 at *
      generalize dT (wheelT o) = d2 at *
      generalize hX : (B : Int) * dT (wheelT b) = X at *
      generalize hY : (A : Int) * d2 = Y at *
      rcases hR with ⟨rfl, hnil⟩ | rfl
      · repeat (first | apply Wp.seqA | apply Wp.skipS | apply Wp.blockS | ((first | apply Wp.regS | apply Wp.condV | apply Wp.reg | apply Wp.condW | apply fin_ret); simp -implicitDefEqProofs (maxSteps := 2000000) (disch := first | exact tt_rfl rfl | omega | (simp only [go_sem] <;> omega) | fail) only [go_sem, show (L : Int) < 8 by omega, tk, hwl, List.take_length, hl1, t1, ho, hi, hN, hfi, aw1, aw2, hX, hY, gt_iff_lt, show ¬ Y < X by omega, bne_self_eq_false] <;> try with_reducible rfl) | apply Wp.block | apply Wp.exitS | apply Wp.retS | apply Wp.exit | apply Wp.ret | apply Wp.skip)
        refine ⟨rfl, ?_⟩
        simp -implicitDefEqProofs (maxSteps := 2000000) (disch := first | exact tt_rfl rfl | omega | (simp only [go_sem] <;> omega) | fail) only [go_sem, norm_eq, Ok.some]
        try rfl
      · repeat (first | apply Wp.seqA | apply Wp.skipS | apply Wp.blockS | ((first | apply Wp.regS | apply Wp.condV | apply Wp.reg | apply Wp.condW | apply fin_ret); simp -implicitDefEqProofs (maxSteps := 2000000) (disch := first | exact tt_rfl rfl | omega | (simp only [go_sem] <;> omega) | fail) only [go_sem, show (L : Int) < 8 by omega, tk, hwl, List.take_length, hl1, t1, ho, hi, hN, hfi, aw1, aw2, hX, hY, gt_iff_lt, show ¬ Y < X by omega, bne_self_eq_false] <;> try with_reducible rfl) | apply Wp.block | apply Wp.exitS | apply Wp.retS | apply Wp.exit | apply Wp.ret | apply Wp.skip)
        refine ⟨rfl, ?_⟩
        simp -implicitDefEqProofs (maxSteps := 2000000) (disch := first | exact tt_rfl rfl | omega | (simp only [go_sem] <;> omega) | fail) only [go_sem, norm_eq, Ok.some]
        try rfl
    · repeat (first | apply Wp.seqA | apply Wp.skipS | apply Wp.blockS | ((first | apply Wp.regS | apply Wp.condV | apply Wp.reg | apply Wp.condW | apply fin_ret); simp -implicitDefEqProofs (maxSteps := 2000000) (disch := first | exact tt_rfl rfl | omega | (simp only [go_sem] <;> omega) | fail) only [go_sem, show ¬ (L : Int) < 8 by omega] <;> try with_reducible rfl) | apply Wp.block | apply Wp.exitS | apply Wp.retS | apply Wp.exit | apply Wp.ret | apply Wp.skip)
      refine ⟨rfl, ?_⟩
      simp -implicitDefEqProofs (maxSteps := 2000000) (disch := first | exact tt_rfl rfl | omega | (simp only [go_sem] <;> omega) | fail) only [go_sem, norm_eq, Ok.some]
      try rfl
  intro fr' hno
  dsimp only [backC]
  apply Wp.seqA
  apply Wp.seqA
  apply Wp.meetS hno
  clear hno
  refine Wp.cutP (fun fr => norm [] fr = some ⟨[], [], [], 10000000⟩) 2 _ _ ?_ ?_
  · dsimp only [frontC]
    by_cases k1 : p < 2
    · obtain ⟨q, hN, R, rfl, hR⟩ := Nearest_ok t ws wn wd (p + 1) hs hw (by omega)
      have hbe : bestOf wn wd ⟨t, ws, []⟩ (upTo ⟨t, ws, []⟩ (p + 1)) = nearestW t ws wn wd (p + 1) := rfl
      rw [hbe] at hN hR
      have hle := nearest_more hs (by omega) wn wd (p := p)
      have hgt := nearest_tried (t := t) (shop := ws) wn wd (p + 1)
      rw [← hb] at hle
      generalize nearestW t ws wn wd (p + 1) = o at *
      have oc : checkT (wheelT o) = 0 := by
        obtain ⟨k, hk, hg⟩ := tried_good hgt
        exact good_check hs hg (by omega)
      have no := nT_bound oc
      have hle' := le_int (wn := wn) (wd := wd) (by omega) (by omega) hle
      rw [← hA] at hle'
      have hfi := fine_ok (nT (wheelT o)) (dT (wheelT o)) no.1 no.2
      have aw1 := away1_ok (nT (wheelT o)) (dT (wheelT o)) wn wd ⟨no.1.1, no.1.2, no.2.1, no.2.2, hw.1.1, hw.1.2, hw.2.1, hw.2.2⟩
      have aB := FarOk.away (n := nT (wheelT o)) (d := dT (wheelT o)) (wn := wn) (wd := wd) ⟨no.1.1, no.1.2, no.2.1, no.2.2, hw.1.1, hw.1.2, hw.2.1, hw.2.2⟩
      have eB : awayN (nT (wheelT o)) (dT (wheelT o)) wn wd = awT wn wd o := rfl
      rw [eB] at aw1 aB
      have x1 := mul_in (a := (A : Int)) (b := dT (wheelT o)) (x := 2500000000000) (y := 1000000) (by omega) (by omega)
      have x2 := mul_in (a := ((awT wn wd o : Nat) : Int)) (b := dT (wheelT b)) (x := 2500000000000) (y := 1000000) (by omega) (by omega)
      unfold takeV at hN
      unfold TakeA.av at hN
      rw [show ((p + 1 : Nat) : Int) = (p : Int) + 1 by omega] at hN
      clear hle hgt eB
      generalize o.ps = ps2 at hR
      generalize awT wn wd o = B at *
      generalize nT (wheelT o) = n2 at *
      generalize dT (wheelT o) = d2 at *
      generalize hX : (B : Int) * dT (wheelT b) = X at *
      generalize hY : (A : Int) * d2 = Y at *
      rcases hR with ⟨rfl, hnil⟩ | rfl
      · repeat (first | apply Wp.seqA | apply Wp.skipS | apply Wp.blockS | ((first | apply Wp.regS | apply Wp.condV | apply Wp.reg | apply Wp.condW | apply fin_ret); simp -implicitDefEqProofs (maxSteps := 2000000) (disch := first | exact tt_rfl rfl | omega | (simp only [go_sem] <;> omega) | fail) only [go_sem, show (p : Int) < 2 by omega, tk, hwl, List.take_length, ho, hi, hN, hfi, aw1, aw2, hX, hY, gt_iff_lt, show ¬ Y < X by omega, bne_self_eq_false] <;> try with_reducible rfl) | apply Wp.block | apply Wp.exitS | apply Wp.retS | apply Wp.exit | apply Wp.ret | apply Wp.skip)
        refine ⟨rfl, ?_⟩
        simp -implicitDefEqProofs (maxSteps := 2000000) (disch := first | exact tt_rfl rfl | omega | (simp only [go_sem] <;> omega) | fail) only [go_sem, norm_eq, Ok.some]
        try rfl
      · repeat (first | apply Wp.seqA | apply Wp.skipS | apply Wp.blockS | ((first | apply Wp.regS | apply Wp.condV | apply Wp.reg | apply Wp.condW | apply fin_ret); simp -implicitDefEqProofs (maxSteps := 2000000) (disch := first | exact tt_rfl rfl | omega | (simp only [go_sem] <;> omega) | fail) only [go_sem, show (p : Int) < 2 by omega, tk, hwl, List.take_length, ho, hi, hN, hfi, aw1, aw2, hX, hY, gt_iff_lt, show ¬ Y < X by omega, bne_self_eq_false] <;> try with_reducible rfl) | apply Wp.block | apply Wp.exitS | apply Wp.retS | apply Wp.exit | apply Wp.ret | apply Wp.skip)
        refine ⟨rfl, ?_⟩
        simp -implicitDefEqProofs (maxSteps := 2000000) (disch := first | exact tt_rfl rfl | omega | (simp only [go_sem] <;> omega) | fail) only [go_sem, norm_eq, Ok.some]
        try rfl
    · repeat (first | apply Wp.seqA | apply Wp.skipS | apply Wp.blockS | ((first | apply Wp.regS | apply Wp.condV | apply Wp.reg | apply Wp.condW | apply fin_ret); simp -implicitDefEqProofs (maxSteps := 2000000) (disch := first | exact tt_rfl rfl | omega | (simp only [go_sem] <;> omega) | fail) only [go_sem, show ¬ (p : Int) < 2 by omega] <;> try with_reducible rfl) | apply Wp.block | apply Wp.exitS | apply Wp.retS | apply Wp.exit | apply Wp.ret | apply Wp.skip)
      refine ⟨rfl, ?_⟩
      simp -implicitDefEqProofs (maxSteps := 2000000) (disch := first | exact tt_rfl rfl | omega | (simp only [go_sem] <;> omega) | fail) only [go_sem, norm_eq, Ok.some]
      try rfl
  intro fr' hno
  dsimp only [backC]
  apply Wp.seqA
  apply Wp.meetS hno
  repeat (first | apply Wp.seqA | apply Wp.skipS | apply Wp.blockS | ((first | apply Wp.regS | apply Wp.condV | apply Wp.reg | apply Wp.condW | apply fin_ret); simp -implicitDefEqProofs (maxSteps := 2000000) (disch := first | exact tt_rfl rfl | omega | (simp only [go_sem] <;> omega) | fail) only [go_sem, kn] <;> try with_reducible rfl) | apply Wp.block | apply Wp.exitS | apply Wp.retS | apply Wp.exit | apply Wp.ret | apply Wp.skip)
end Go.Abs
