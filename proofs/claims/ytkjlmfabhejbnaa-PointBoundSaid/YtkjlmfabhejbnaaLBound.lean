/-
 PointBound: the design of Bind is bound, keeps the points that are fixed, and has av many points changed av it says; no other design that is tried is.
-/
import Derived.Test.YtkjlmfabhejbnaaQ2
import Derived.Test.YtkjlmfabhejbnaaWpE
set_option linter.all false
namespace Go.Abs
set_option maxRecDepth 10000
set_option maxHeartbeats 8000000

theorem fx_step (d : DesN) (fixed : List (Fin 65536)) (i : Nat) : natsV ((List.range (i + 1)).map (fixRow d.hk fixed)) = natsV ((List.range i).map (fixRow d.hk fixed)) ++ [iv ((fixRow d.hk fixed i : Nat) : Int)] := by
 unfold natsV; rw [List.range_succ, List.map_append, List.map_append]; rfl
theorem bound_main (kn : lim F 15 [] = some (.bool true, [])) (x : PaperB) (fixed : List (Fin 65536)) (t0 t1 t2 : Nat) (h0 : t0 < 256) (h1 : t1 < 256) (h2 : t2 < 256) : lim F 7 [x.av, .list 1 (fixed.map fun r => .int .u16 (r.1 : Int)), .agg [.int .u8 (t0 : Int), .int .u8 (t1 : Int), .int .u8 (t2 : Int)]] = some (.bool true, []) := by
 have d1 := design_ok x 24 (by omega) (by omega)
 rw [show ((24 : Nat) : Int) = 24 from rfl] at d1
 have hd := paper_ok x (m := 24) (by omega) (by omega)
 have h20 := paper_rows x 24
 change lim F _ _ = some (AV.agg [_, .own 1 (natsV (paperN x 24).rows)], []) at d1
 generalize paperN x 24 = d at *
 have h24 := hd.h24
 have hr1 := hd.r1
 have hh1 := hd.h1
 have hf := fix_ok d fixed
 have em : Int.tmod (t0 : Int) 8 = ((t0 % 8 : Nat) : Int) := by rw [Int.tmod_eq_emod_of_nonneg (Int.natCast_nonneg _)]; simp
 have hb8 : t0 % 8 < 8 := Nat.mod_lt _ (by omega)
 generalize t0 % 8 = tb at *
 have hln : (natsV d.rows).length = d.rows.length := by simp
 have hpl : (natsV d.rows).all AV.plain = true := nat_plain d.rows
 have htk : (natsV d.rows).take d.rows.length = natsV d.rows := List.take_of_length_le (by omega)
 have eml : (fixed.map fun r : Fin 65536 => AV.int .u16 (r.1 : Int)).length = fixed.length := by simp
 have hpw : 2 ^ d.hk ≤ 2 ^ 24 := Nat.pow_le_pow_right (by omega) (by omega)
 have hpw0 : 0 < 2 ^ d.hk := Nat.pow_pos (by omega)
 have s1 := w_shl1 d.hk (by omega)
 have u1 : IntKind.wrap .u64 (d.hk : Int) = d.hk := wrap_u64 (by omega) (by omega)
 have hrow : ∀ i, fixed ≠ [] → ∃ v : Nat, v < 65536 ∧ (fixed.map fun r : Fin 65536 => AV.int .u16 (r.1 : Int))[i % fixed.length]? = some (.int .u16 (v : Int)) ∧ fixRow d.hk fixed i = v &&& (2 ^ d.hk - 1) := fun i hne => by
  have hpos : 0 < fixed.length := List.length_pos_iff.2 hne
  have hmod := Nat.mod_lt i hpos
  refine ⟨fixed[i % fixed.length].1, fixed[i % fixed.length].2, by rw [List.getElem?_map, List.getElem?_eq_getElem hmod]; rfl, ?_⟩
  unfold fixRow
  rw [if_neg hne, List.getElem?_eq_getElem hmod]; rfl
 have hrow0 : fixed = [] → ∀ i, fixRow d.hk fixed i = 0 := fun h i => by unfold fixRow; rw [if_pos h]
 have hst := fx_step d fixed
 have hMl : ∀ i, (natsV ((List.range i).map (fixRow d.hk fixed))).length = i := fun i => by simp
 have hfin : natsV ((List.range d.rows.length).map (fixRow d.hk fixed)) = natsV (fixN d fixed) := rfl
 unfold PaperB.av at *
 generalize hme : fixed.map (fun r : Fin 65536 => AV.int .u16 (r.1 : Int)) = me at *
 generalize hrsq : natsV d.rows = rs at *
 have hfl : (natsV (fixN d fixed)).length = d.rows.length := by simp [fixN]
 have hfp : (natsV (fixN d fixed)).all AV.plain = true := nat_plain (fixN d fixed)
 have hft : (natsV (fixN d fixed)).take d.rows.length = natsV (fixN d fixed) := List.take_of_length_le (by omega)
 have hI := intsN_ok (fixN d fixed) (by rw [hf.len]; omega)
 have hO := ownDes_ok d hd
 have hP := Proof_ok d hd (1 + tb) (by omega)
 have hbI : 1 + (tb : Int) = ((1 + tb : Nat) : Int) := by omega
 unfold desV at hO
 change lim F _ [.agg [_, .list 1 (natsV d.rows)], _] = _ at hP
 rw [hrsq] at hO hP
 generalize fixN d fixed = fx at *
 generalize hfsq : natsV fx = fs at *
 have hbr : 1 ≤ 1 + tb ∧ 1 + tb ≤ 24 := by omega
 have hwl := winsD_len hd (1 + tb)
 have hwv : winsV d.hk (1 + tb) (weftF d) = (winsD d (1 + tb)).map FloatT.av := rfl
 have hwp : (winsV d.hk (1 + tb) (weftF d)).all AV.plain = true := fl_plain ((weftF d).flatMap (winT d.hk (1 + tb)))
 have hwlen : (winsV d.hk (1 + tb) (weftF d)).length = (winsD d (1 + tb)).length := by rw [hwv]; simp
 have hL20 : d.rows.length * 24 ≤ 20 * 24 := Nat.mul_le_mul_right _ h20
 -- another design
 have hot1 := fun (e : DesN) (hoth : Other d e fx) (i k : Nat) (hi : i < d.rows.length) (hk : k < d.hk) => hoth.step hi hk
 have ho0 := Other.self hd fx
 generalize hws : winsV d.hk (1 + tb) (weftF d) = ws at *
 generalize hbq : 1 + tb = b at *
 have hBx : ∃ (aH m e : Int) (al : Nat) (av : List AV), lim F 27 [.agg [iv (d.hk : Int), .list 1 rs], .list 1 fs, iv (b : Int)] = some (.tuple [.agg [iv aH, .own 1 av], iv m, iv e], []) ∧ av.length = al ∧ av.all AV.plain = true ∧
   ((bAll d fx b d.rows.length ∧ aH = (d.hk : Int) ∧ al = d.rows.length ∧ av = natsV (bindN d fx b).rows ∧ m = ((bSum d fx b d.rows.length : Nat) : Int) ∧ e = 0) ∨ (¬ bAll d fx b d.rows.length ∧ aH = 0 ∧ al = 0 ∧ av = [] ∧ m = 0 ∧ e = 9)) := by
  by_cases hall : bAll d fx b d.rows.length
  ·have hB := Bind_ok d hd fx hf b hbr _ (fun _ => rfl) (fun h => absurd hall h)
   change lim F _ [.agg [_, .list 1 (natsV d.rows)], _, _] = _ at hB
   rw [hrsq, hfsq] at hB
   exact ⟨_, _, _, _, _, hB, by simp [bindN], nat_plain (bindN d fx b).rows, .inl ⟨hall, rfl, rfl, rfl, rfl, rfl⟩⟩
  ·have hB := Bind_ok d hd fx hf b hbr _ (fun h => absurd h hall) (fun _ => rfl)
   change lim F _ [.agg [_, .list 1 (natsV d.rows)], _, _] = _ at hB
   rw [hrsq, hfsq] at hB
   exact ⟨_, _, _, _, _, hB, rfl, rfl, .inr ⟨hall, rfl, rfl, rfl, rfl, rfl⟩⟩
 obtain ⟨aH, m, e, al, av, hB, hal, hap, hcase⟩ := hBx
 refine lim_by (fn := a7) (k := 3) (res := [.tmp 6]) rfl rfl rfl (by simp -implicitDefEqProofs (maxSteps := 2000000) (disch := first | exact tt_rfl rfl | omega | (simp only [go_sem] <;> omega) | fail) only [go_sem]) ?_
 simp -implicitDefEqProofs (maxSteps := 2000000) (disch := first | exact tt_rfl rfl | omega | (simp only [go_sem] <;> omega) | fail) only [go_sem]
 refine Wp.cutP (fun fr => ∃ o : DesN, Other d o fx ∧ fr = ⟨[(5, .ptr 320 0 0), (7, .ptr 448 0 0), (8, .slice 512 0 d.rows.length), (9, iv (b : Int)), (12, .ptr 768 0 0), (13, iv m), (14, iv e), (15, .slice 960 0 (winsD d b).length), (17, .ptr 1088 0 0), (18, iv 2), (87, .bool false)], [(320, .box [.int .u8 (t0 : Int), .int .u8 (t1 : Int), .int .u8 (t2 : Int)]), (448, .box [iv (d.hk : Int), .slice 307169 0 d.rows.length]), (512, .arr 1 fs), (768, .box [iv aH, .slice 312289 0 al]), (960, .arr 4 ws), (1088, .box [iv (d.hk : Int), .slice 317409 0 d.rows.length]), (307169, .arr 1 rs), (312289, .arr 1 av), (317409, .arr 1 (natsV o.rows))], [], 10000064⟩) 8 _ _ ?_ ?_
 ·simp only [frontC]
  repeat (first | apply Wp.seqA | apply Wp.skipS | apply Wp.blockS | ((first | apply Wp.regS | apply Wp.condV | apply Wp.reg | apply Wp.condW | apply fin_ret); simp -implicitDefEqProofs (maxSteps := 2000000) (disch := first | exact tt_rfl rfl | omega | (simp only [go_sem] <;> omega) | fail) only [go_sem, d1, em, hbI, hln, hpl, htk] <;> try with_reducible rfl) | apply Wp.block | apply Wp.exitS | apply Wp.retS | apply Wp.exit | apply Wp.ret | apply Wp.skip)
  apply Wp.loopF d.rows.length (fun i => ⟨[(1, .list 1 me), (5, .ptr 320 0 0), (7, .ptr 448 0 0), (8, .slice 512 0 i), (9, iv (b : Int)), (10, iv (i : Int))], [(320, .box [.int .u8 (t0 : Int), .int .u8 (t1 : Int), .int .u8 (t2 : Int)]), (448, .box [iv (d.hk : Int), .slice 307169 0 d.rows.length]), (512, .arr 1 (natsV ((List.range i).map (fixRow d.hk fixed)))), (307169, .arr 1 rs)], [], 10000000⟩) (fun _ => True)
  ·simp -implicitDefEqProofs (maxSteps := 2000000) (disch := first | exact tt_rfl rfl | omega | (simp only [go_sem] <;> omega) | fail) only [go_sem, norm_eq, Ok.some]
   rfl
  ·trivial
  intro i hi _
  by_cases h : i < d.rows.length
  ·have hs := hst i
   have hMi := hMl i
   have hlt := fixRow_lt d.hk fixed i
   by_cases hne : fixed = []
   ·have hz := hrow0 hne i
    rw [hz] at hs
    have h0 : fixed.length = 0 := by rw [hne]; rfl
    rw [h0] at eml
    generalize natsV ((List.range i).map (fixRow d.hk fixed)) = fs at *
    generalize natsV ((List.range (i + 1)).map (fixRow d.hk fixed)) = fs' at *
    repeat (first | apply Wp.seqA | apply Wp.skipS | apply Wp.blockS | ((first | apply Wp.regS | apply Wp.condV | apply Wp.reg | apply Wp.condW | apply fin_ret); simp -implicitDefEqProofs (maxSteps := 2000000) (disch := first | exact tt_rfl rfl | omega | (simp only [go_sem] <;> omega) | fail) only [go_sem, h, Int.ofNat_lt, hln, eml, hMi, Int.natCast_zero, Int.lt_irrefl] <;> try with_reducible rfl) | apply Wp.block | apply Wp.exitS | apply Wp.retS | apply Wp.exit | apply Wp.ret | apply Wp.skip)
    apply round_next
    ·simp -implicitDefEqProofs (maxSteps := 2000000) (disch := first | exact tt_rfl rfl | omega | (simp only [go_sem] <;> omega) | fail) only [go_sem, norm_eq, Ok.some]; with_reducible rfl
    refine ⟨h, ?_, trivial⟩
    rw [hs]
    simp
   ·obtain ⟨v, hv, hgv, hrv⟩ := hrow i hne
    have hpos : 0 < fixed.length := List.length_pos_iff.2 hne
    have em2 : Int.tmod (i : Int) (fixed.length : Int) = ((i % fixed.length : Nat) : Int) := by rw [Int.tmod_eq_emod_of_nonneg (Int.natCast_nonneg _)]; simp
    have e3 : ((2 ^ d.hk : Nat) : Int) - 1 = ((2 ^ d.hk - 1 : Nat) : Int) := by omega
    have w := w_and v (2 ^ d.hk - 1) (by omega) (by omega)
    rw [← hrv] at w
    generalize natsV ((List.range i).map (fixRow d.hk fixed)) = fs at *
    generalize natsV ((List.range (i + 1)).map (fixRow d.hk fixed)) = fs' at *
    generalize fixRow d.hk fixed i = mr at *
    generalize i % fixed.length = im at *
    generalize 2 ^ d.hk = pw at *
    repeat (first | apply Wp.seqA | apply Wp.skipS | apply Wp.blockS | ((first | apply Wp.regS | apply Wp.condV | apply Wp.reg | apply Wp.condW | apply fin_ret); simp -implicitDefEqProofs (maxSteps := 2000000) (disch := first | exact tt_rfl rfl | omega | (simp only [go_sem] <;> omega) | fail) only [go_sem, h, Int.ofNat_lt, hln, eml, hMi, em2, hgv, e3, w, s1, u1, Int.toNat_natCast, show (fixed.length : Int) ≠ 0 by omega, show (0 : Int) < fixed.length by omega] <;> try with_reducible rfl) | apply Wp.block | apply Wp.exitS | apply Wp.retS | apply Wp.exit | apply Wp.ret | apply Wp.skip)
    apply round_next
    ·simp -implicitDefEqProofs (maxSteps := 2000000) (disch := first | exact tt_rfl rfl | omega | (simp only [go_sem] <;> omega) | fail) only [go_sem, norm_eq, Ok.some]; with_reducible rfl
    refine ⟨h, ?_, trivial⟩
    rw [hs]
    simp
  ·obtain rfl : i = d.rows.length := by omega
   rw [hfin]
   clear hrow hrow0 hst hMl
   repeat (first | apply Wp.seqA | apply Wp.skipS | apply Wp.blockS | ((first | apply Wp.regS | apply Wp.condV | apply Wp.reg | apply Wp.condW | apply fin_ret); simp -implicitDefEqProofs (maxSteps := 2000000) (disch := first | exact tt_rfl rfl | omega | (simp only [go_sem] <;> omega) | fail) only [go_sem, hO, hI, hB, hP, hln, hpl, htk, hfl, hfp, hft, hwlen, hwp, hal, hap, Int.lt_irrefl, show ¬ (1000 : Int) < ((winsD d b).length : Int) by omega] <;> try with_reducible rfl) | apply Wp.block | apply Wp.exitS | apply Wp.retS | apply Wp.exit | apply Wp.ret | apply Wp.skip)
   apply Wp.loopN 2 (fun k fr => ∃ o : DesN, Other d o fx ∧ fr = ⟨[(5, .ptr 320 0 0), (7, .ptr 448 0 0), (8, .slice 512 0 d.rows.length), (9, iv (b : Int)), (12, .ptr 768 0 0), (13, iv m), (14, iv e), (15, .slice 960 0 (winsD d b).length), (17, .ptr 1088 0 0), (18, iv (k : Int))], [(320, .box [.int .u8 (t0 : Int), .int .u8 (t1 : Int), .int .u8 (t2 : Int)]), (448, .box [iv (d.hk : Int), .slice 307169 0 d.rows.length]), (512, .arr 1 fs), (768, .box [iv aH, .slice 312289 0 al]), (960, .arr 4 ws), (1088, .box [iv (d.hk : Int), .slice 317409 0 d.rows.length]), (307169, .arr 1 rs), (312289, .arr 1 av), (317409, .arr 1 (natsV o.rows))], [], 10000000⟩)
   ·simp -implicitDefEqProofs (maxSteps := 2000000) (disch := first | exact tt_rfl rfl | omega | (simp only [go_sem] <;> omega) | fail) only [go_sem, norm_eq, Ok.some]
    exact ⟨d, ho0, by rw [hrsq]; rfl⟩
   rintro k fr hk ⟨o, hoth, rfl⟩
   by_cases hk2 : k < 2
   ·obtain ⟨tv, htv, hx⟩ : ∃ tv : Nat, tv < 256 ∧ ([AV.int .u8 (t0 : Int), AV.int .u8 (t1 : Int), AV.int .u8 (t2 : Int)])[(1 + (k : Int)).toNat * 1]? = some (.int .u8 (tv : Int)) := by
     have : k = 0 ∨ k = 1 := by omega
     rcases this with rfl | rfl
     ·exact ⟨t1, h1, rfl⟩
     ·exact ⟨t2, h2, rfl⟩
    have hmi := Nat.mod_lt tv (show 0 < d.rows.length by omega)
    have hmk := Nat.mod_lt (tv / 8) (show 0 < d.hk by omega)
    have e1 : Int.tmod (tv : Int) (d.rows.length : Int) = ((tv % d.rows.length : Nat) : Int) := by rw [Int.tmod_eq_emod_of_nonneg (Int.natCast_nonneg _)]; simp
    have e2 : Int.tmod (((tv / 8 : Nat) : Int)) (d.hk : Int) = ((tv / 8 % d.hk : Nat) : Int) := by rw [Int.tmod_eq_emod_of_nonneg (Int.natCast_nonneg _)]; simp
    have e3 : Int.tdiv (tv : Int) 8 = ((tv / 8 : Nat) : Int) := by rw [Int.tdiv_eq_ediv_of_nonneg (Int.natCast_nonneg _)]; simp
    have hstep := hot1 o hoth (tv % d.rows.length) (tv / 8 % d.hk) hmi hmk
    generalize tv % d.rows.length = im at *
    generalize tv / 8 % d.hk = hm at *
    have s2 := w_shl1 hm (by omega)
    have p2 : 2 ^ hm ≤ 2 ^ 24 := Nat.pow_le_pow_right (by omega) (by omega)
    have u2 : IntKind.wrap .u64 (hm : Int) = hm := wrap_u64 (by omega) (by omega)
    have hfi := hf.get hmi
    have g1 : fs[im]? = some (iv ((fx.getD im 0 : Nat) : Int)) := by rw [← hfsq]; exact nats_at (by rw [hf.len]; exact hmi)
    have g2 : (natsV o.rows)[im]? = some (iv ((o.rows.getD im 0 : Nat) : Int)) := nats_at (by rw [hoth.len]; exact hmi)
    have hol : (natsV o.rows).length = d.rows.length := by simp [hoth.len]
    have hlo : o.rows.getD im 0 < 2 ^ 24 := by
     have hi' : im < o.rows.length := by rw [hoth.len]; exact hmi
     have := hoth.ok.lt _ (List.getElem_mem hi')
     rw [← rows_get hi', hoth.hk] at this
     omega
    have w1 := w_and (fx.getD im 0) (2 ^ hm) (by omega) (by omega)
    have w2 := w_xor (o.rows.getD im 0) (2 ^ hm) (by omega) (by omega)
    have hset : (natsV o.rows).set im (iv ((o.rows.getD im 0 ^^^ 2 ^ hm : Nat) : Int)) = natsV (o.rows.set im (o.rows.getD im 0 ^^^ 2 ^ hm)) := by
     unfold natsV; rw [List.map_set]
    unfold oth at hstep
    generalize hos : natsV (o.rows.set im (o.rows.getD im 0 ^^^ 2 ^ hm)) = os' at *
    by_cases hz : fx.getD im 0 &&& 2 ^ hm = 0
    ·rw [if_pos hz] at hstep
     rw [hz] at w1
     repeat (first | apply Wp.seqA | apply Wp.skipS | apply Wp.blockS | ((first | apply Wp.regS | apply Wp.condV | apply Wp.reg | apply Wp.condW | apply fin_ret); simp -implicitDefEqProofs (maxSteps := 2000000) (disch := first | exact tt_rfl rfl | omega | (simp only [go_sem] <;> omega) | fail) only [go_sem, hx, hln, hfl, e1, e2, e3, u2, s2, g1, w1, hol, g2, w2, hset, show (k : Int) < 2 by omega, show (d.rows.length : Int) ≠ 0 by omega, show (d.hk : Int) ≠ 0 by omega, Int.toNat_natCast, Int.natCast_zero] <;> try with_reducible rfl) | apply Wp.block | apply Wp.exitS | apply Wp.retS | apply Wp.exit | apply Wp.ret | apply Wp.skip)
     apply round_next
     ·simp -implicitDefEqProofs (maxSteps := 2000000) (disch := first | exact tt_rfl rfl | omega | (simp only [go_sem] <;> omega) | fail) only [go_sem, norm_eq, Ok.some]; with_reducible rfl
     refine ⟨hk2, _, hstep, ?_⟩
     rw [hos]
     simp
    ·rw [if_neg hz] at hstep
     generalize fx.getD im 0 &&& 2 ^ hm = za at *
     repeat (first | apply Wp.seqA | apply Wp.skipS | apply Wp.blockS | ((first | apply Wp.regS | apply Wp.condV | apply Wp.reg | apply Wp.condW | apply fin_ret); simp -implicitDefEqProofs (maxSteps := 2000000) (disch := first | exact tt_rfl rfl | omega | (simp only [go_sem] <;> omega) | fail) only [go_sem, hx, hln, hfl, e1, e2, e3, u2, s2, g1, w1, hol, show ¬ (za : Int) = 0 by omega, show (k : Int) < 2 by omega, show (d.rows.length : Int) ≠ 0 by omega, show (d.hk : Int) ≠ 0 by omega, Int.toNat_natCast] <;> try with_reducible rfl) | apply Wp.block | apply Wp.exitS | apply Wp.retS | apply Wp.exit | apply Wp.ret | apply Wp.skip)
     apply round_next
     ·simp -implicitDefEqProofs (maxSteps := 2000000) (disch := first | exact tt_rfl rfl | omega | (simp only [go_sem] <;> omega) | fail) only [go_sem, norm_eq, Ok.some]; with_reducible rfl
     exact ⟨hk2, _, hstep, by simp⟩
   ·obtain rfl : k = 2 := by omega
    repeat (first | apply Wp.seqA | apply Wp.skipS | apply Wp.blockS | ((first | apply Wp.regS | apply Wp.condV | apply Wp.reg | apply Wp.condW | apply fin_ret); simp -implicitDefEqProofs (maxSteps := 2000000) (disch := first | exact tt_rfl rfl | omega | (simp only [go_sem] <;> omega) | fail) only [go_sem, Int.lt_irrefl, show ((2 : Nat) : Int) = 2 from rfl] <;> try with_reducible rfl) | apply Wp.block | apply Wp.exitS | apply Wp.retS | apply Wp.exit | apply Wp.ret | apply Wp.skip)
    exact ⟨rfl, o, hoth, rfl⟩
 ·rintro fr ⟨o, hoth, rfl⟩
  simp only [backC]
  have hBo := bound_ok o hoth.ok b
  have hol : (natsV o.rows).length = d.rows.length := by simp [hoth.len]
  have hop : (natsV o.rows).all AV.plain = true := nat_plain o.rows
  have hotk : (natsV o.rows).take d.rows.length = natsV o.rows := List.take_of_length_le (by omega)
  have hCo := changesAll_ok d o hd hoth.ok
  unfold desV at hBo hCo
  rw [hoth.hk] at hBo hCo
  rw [hrsq] at hCo
  have hnn := none_ok 0 [] (by simp)
  simp only [decide_true, Bool.and_self] at hnn
  rcases hcase with ⟨hall, rfl, rfl, rfl, rfl, rfl⟩ | ⟨hall, rfl, rfl, rfl, rfl, rfl⟩
  ·have hBn := bound_ok (bindN d fx b) (bindN_ok hd hbr.1 hall) b
   rw [bindN_bound hd hbr.1 hall] at hBn
   have hCn := changesAll_ok d (bindN d fx b) hd (bindN_ok hd hbr.1 hall)
   rw [bindN_sum hd hbr.1 hall _ (Nat.le_refl _)] at hCn
   have hR := right_ok (bindN d fx b) (bindN_ok hd hbr.1 hall)
   rw [bindN_len] at hR
   unfold desV at hBn hCn hR
   rw [show (bindN d fx b).hk = d.hk from rfl] at hBn hCn hR
   rw [hrsq] at hCn
   have hC1 := fun i hi => changesOne_ok d (bindN d fx b) hd (bindN_ok hd hbr.1 hall) i hi
   unfold desV at hC1
   rw [show (bindN d fx b).hk = d.hk from rfl, hrsq] at hC1
   have hle := other_le hd hbr.1 hoth hall
   have hwc := fun i (hi : i < d.rows.length) => wins_chg hd (e := bindN d fx b) rfl (bindN_len _ _ _) (bindN_ok hd hbr.1 hall) (bindN_bound hd hbr.1 hall) hi
   have hnt : (natsV (bindN d fx b).rows).take d.rows.length = natsV (bindN d fx b).rows := List.take_of_length_le (by omega)
   refine Wp.cutP (fun fr => fr = ⟨[(7, .ptr 448 0 0), (8, .slice 512 0 d.rows.length), (12, .ptr 768 0 0), (15, .slice 960 0 (winsD d b).length), (178, .bool false)], [(320, .box [.int .u8 (t0 : Int), .int .u8 (t1 : Int), .int .u8 (t2 : Int)]), (448, .box [iv (d.hk : Int), .slice 307169 0 d.rows.length]), (512, .arr 1 fs), (768, .box [iv (d.hk : Int), .slice 312289 0 d.rows.length]), (960, .arr 4 ws), (1088, .box [iv (d.hk : Int), .slice 317409 0 d.rows.length]), (307169, .arr 1 rs), (312289, .arr 1 (natsV (bindN d fx b).rows)), (317409, .arr 1 (natsV o.rows))], [], 10001184⟩) 2 _ _ ?_ ?_
   ·simp only [frontC]
    cases hq : boundT o b with
    | false =>
     rw [hq] at hBo
     generalize natsV (bindN d fx b).rows = ns at *
     generalize bSum d fx b d.rows.length = sm at *
     repeat (first | apply Wp.seqA | apply Wp.skipS | apply Wp.blockS | ((first | apply Wp.regS | apply Wp.condV | apply Wp.reg | apply Wp.condW | apply fin_ret); simp -implicitDefEqProofs (maxSteps := 2000000) (disch := first | exact tt_rfl rfl | omega | (simp only [go_sem] <;> omega) | fail) only [go_sem, hR, hBn, hCn, hBo, hln, hol, hop, hotk, hal, hap, hnt, hpl, htk] <;> try with_reducible rfl) | apply Wp.block | apply Wp.exitS | apply Wp.retS | apply Wp.exit | apply Wp.ret | apply Wp.skip)
     exact ⟨rfl, rfl⟩
    | true =>
     rw [hq] at hBo
     have hle := hle hq _ (Nat.le_refl _)
     generalize natsV (bindN d fx b).rows = ns at *
     generalize bSum d fx b d.rows.length = sm at *
     generalize chgS d o d.rows.length = so at *
     repeat (first | apply Wp.seqA | apply Wp.skipS | apply Wp.blockS | ((first | apply Wp.regS | apply Wp.condV | apply Wp.reg | apply Wp.condW | apply fin_ret); simp -implicitDefEqProofs (maxSteps := 2000000) (disch := first | exact tt_rfl rfl | omega | (simp only [go_sem] <;> omega) | fail) only [go_sem, hR, hBn, hCn, hBo, hCo, hln, hol, hop, hotk, hal, hap, hnt, hpl, htk, show ¬ (so : Int) < (sm : Int) by omega] <;> try with_reducible rfl) | apply Wp.block | apply Wp.exitS | apply Wp.retS | apply Wp.exit | apply Wp.ret | apply Wp.skip)
     exact ⟨rfl, rfl⟩
   ·rintro fr rfl
    simp only [backC]
    have hz := cntW_zero d b
    have hcl := cntW_len d b
    have hwg : ∀ t (h : t < (winsD d b).length), ws[t]? = some (.agg [iv ((winsD d b)[t]).pick, iv ((winsD d b)[t]).hook, iv ((winsD d b)[t]).len, .bool ((winsD d b)[t]).up]) := fun t h => by
     rw [hwv, List.getElem?_map, List.getElem?_eq_getElem h]; rfl
    have hwi := fun t (h : t < (winsD d b).length) => wins_in (List.getElem_mem h)
    have hset := fun t p ht hp hpl => cntW_set (d := d) (b := b) (t := t) (p := p) ht hp hpl
    have hcle := cntW_le d b
    have hbg : ∀ i, i < d.rows.length → (natsV (bindN d fx b).rows)[i]? = some (iv ((bRow d fx b i : Nat) : Int)) := fun i hi => by
     have := nats_at (l := (bindN d fx b).rows) (i := i) (by rw [bindN_len]; exact hi)
     rw [bindN_row hi] at this; exact this
    have hrg : ∀ i, i < d.rows.length → rs[i]? = some (iv ((d.rows.getD i 0 : Nat) : Int)) := fun i hi => by rw [← hrsq]; exact nats_at hi
    have hfg : ∀ i, i < d.rows.length → fs[i]? = some (iv ((fx.getD i 0 : Nat) : Int)) := fun i hi => by rw [← hfsq]; exact nats_at (by rw [hf.len]; exact hi)
    have hkp := fun i hi => bindN_keep hd hf hbr.1 hall (i := i) hi
    have hrl := fun i hi => (best_at hd hbr.1 hall (i := i) hi).can.lt
    have hdl : ∀ i, i < d.rows.length → d.rows.getD i 0 < 2 ^ d.hk := fun i hi => by rw [rows_get hi]; exact hd.lt _ (List.getElem_mem hi)
    have hcw := fun i (hi : i < d.rows.length) => wins_count d b hi
    have hend := fun p hp => cntW_get (d := d) (b := b) (t := (winsD d b).length) (p := p) hp
    simp only [List.take_length] at hend
    have hcg : ∀ t p, p < d.rows.length → (natsV (cntW d b t))[p]? = some (iv (((cntW d b t).getD p 0 : Nat) : Int)) := fun t p hp => nats_at (by rw [hcl]; exact hp)
    have hnl : (natsV (bindN d fx b).rows).length = d.rows.length := by simp [bindN]
    generalize natsV (bindN d fx b).rows = ns at *
    repeat (first | apply Wp.seqA | apply Wp.skipS | apply Wp.blockS | ((first | apply Wp.regS | apply Wp.condV | apply Wp.reg | apply Wp.condW | apply fin_ret); simp -implicitDefEqProofs (maxSteps := 2000000) (disch := first | exact tt_rfl rfl | omega | (simp only [go_sem] <;> omega) | fail) only [go_sem, hln] <;> try with_reducible rfl) | apply Wp.block | apply Wp.exitS | apply Wp.retS | apply Wp.exit | apply Wp.ret | apply Wp.skip)
    apply Wp.loopF (winsD d b).length (fun t => ⟨[(7, .ptr 448 0 0), (8, .slice 512 0 d.rows.length), (12, .ptr 768 0 0), (15, .slice 960 0 (winsD d b).length), (21, .slice 1344 0 d.rows.length), (22, iv (t : Int))], [(448, .box [iv (d.hk : Int), .slice 307169 0 d.rows.length]), (512, .arr 1 fs), (768, .box [iv (d.hk : Int), .slice 312289 0 d.rows.length]), (960, .arr 4 ws), (1344, .arr 1 (natsV (cntW d b t))), (307169, .arr 1 rs), (312289, .arr 1 ns)], [], 10000000⟩) (fun _ => True)
    ·simp -implicitDefEqProofs (maxSteps := 2000000) (disch := first | exact tt_rfl rfl | omega | (simp only [go_sem] <;> omega) | fail) only [go_sem, norm_eq, Ok.some]
     rw [hz]
     rfl
    ·trivial
    intro t ht _
    by_cases h : t < (winsD d b).length
    ·have h1 := hwg t h
     obtain ⟨p, hp, hpe⟩ := hwi t h
     have hs := hset t p h hpe hp
     have hcp := hcg t p hp
     have hc1 := hcle t p hp
     have hcl1 : (natsV (cntW d b t)).length = d.rows.length := by simp [hcl]
     rw [hpe] at h1
     clear hwg hwi hset hcle hbg hrg hfg hkp hrl hdl hcw hend hcg hz hcl
     generalize (cntW d b t).getD p 0 = c at *
     generalize natsV (cntW d b t) = es at *
     generalize natsV (cntW d b (t + 1)) = es' at *
     generalize (winsD d b)[t].hook = wh at *
     generalize (winsD d b)[t].len = wl at *
     generalize (winsD d b)[t].up = wu at *
     have e1 : ((c : Int) + 1) = ((c + 1 : Nat) : Int) := by omega
     repeat (first | apply Wp.seqA | apply Wp.skipS | apply Wp.blockS | ((first | apply Wp.regS | apply Wp.condV | apply Wp.reg | apply Wp.condW | apply fin_ret); simp -implicitDefEqProofs (maxSteps := 2000000) (disch := first | exact tt_rfl rfl | omega | (simp only [go_sem] <;> omega) | fail) only [go_sem, h, Int.ofNat_lt, hwlen, h1, hcl1, hcp, hs, e1, show ¬ (p : Int) < 0 by omega, show ¬ (d.rows.length : Int) ≤ (p : Int) by omega, Int.toNat_natCast] <;> try with_reducible rfl) | apply Wp.block | apply Wp.exitS | apply Wp.retS | apply Wp.exit | apply Wp.ret | apply Wp.skip)
     apply round_next
     ·simp -implicitDefEqProofs (maxSteps := 2000000) (disch := first | exact tt_rfl rfl | omega | (simp only [go_sem] <;> omega) | fail) only [go_sem, norm_eq, Ok.some]; with_reducible rfl
     exact ⟨h, by simp, trivial⟩
    ·obtain rfl : t = (winsD d b).length := by omega
     have hcl1 : (natsV (cntW d b (winsD d b).length)).length = d.rows.length := by simp [hcl]
     have hcg' := hcg (winsD d b).length
     clear hset hwi hwg hcle hcg hz
     repeat (first | apply Wp.seqA | apply Wp.skipS | apply Wp.blockS | ((first | apply Wp.regS | apply Wp.condV | apply Wp.reg | apply Wp.condW | apply fin_ret); simp -implicitDefEqProofs (maxSteps := 2000000) (disch := first | exact tt_rfl rfl | omega | (simp only [go_sem] <;> omega) | fail) only [go_sem, Int.lt_irrefl, hwlen] <;> try with_reducible rfl) | apply Wp.block | apply Wp.exitS | apply Wp.retS | apply Wp.exit | apply Wp.ret | apply Wp.skip)
     apply Wp.loopF d.rows.length (fun i => ⟨[(7, .ptr 448 0 0), (8, .slice 512 0 d.rows.length), (12, .ptr 768 0 0), (21, .slice 1344 0 d.rows.length), (23, iv (i : Int))], [(448, .box [iv (d.hk : Int), .slice 307169 0 d.rows.length]), (512, .arr 1 fs), (768, .box [iv (d.hk : Int), .slice 312289 0 d.rows.length]), (1344, .arr 1 (natsV (cntW d b (winsD d b).length))), (307169, .arr 1 rs), (312289, .arr 1 ns)], [], 10000000⟩) (fun _ => True)
     ·simp -implicitDefEqProofs (maxSteps := 2000000) (disch := first | exact tt_rfl rfl | omega | (simp only [go_sem] <;> omega) | fail) only [go_sem, norm_eq, Ok.some]
      rfl
     ·trivial
     intro i hi _
     by_cases h : i < d.rows.length
     ·have g1 := hbg i h
      have g2 := hrg i h
      have g3 := hfg i h
      have g4 := hcg' i h
      have k1 := hkp i h
      have k2 := hrl i h
      have k3 := hdl i h
      have k4 := hf.get h
      have x1 := hC1 i h
      have hge : (cntW d b (winsD d b).length).getD i 0 ≤ chgR d (bindN d fx b) i := by
       rw [hend i h, hcw i h]
       exact hwc i h
      have w1 := w_xor (bRow d fx b i) (d.rows.getD i 0) (by omega) (by omega)
      have hxl := Nat.xor_lt_two_pow k2 k3
      have w2 := w_and (bRow d fx b i ^^^ d.rows.getD i 0) (fx.getD i 0) (by omega) (by omega)
      rw [k1] at w2
      clear hbg hrg hfg hkp hrl hdl hcw hend hcg' hC1 hwc
      generalize chgR d (bindN d fx b) i = cr at *
      generalize (cntW d b (winsD d b).length).getD i 0 = cw at *
      generalize natsV (cntW d b (winsD d b).length) = es at *
      generalize bRow d fx b i ^^^ d.rows.getD i 0 = xr at *
      generalize bRow d fx b i = br at *
      generalize d.rows.getD i 0 = dr at *
      generalize fx.getD i 0 = fr at *
      repeat (first | apply Wp.seqA | apply Wp.skipS | apply Wp.blockS | ((first | apply Wp.regS | apply Wp.condV | apply Wp.reg | apply Wp.condW | apply fin_ret); simp -implicitDefEqProofs (maxSteps := 2000000) (disch := first | exact tt_rfl rfl | omega | (simp only [go_sem] <;> omega) | fail) only [go_sem, h, Int.ofNat_lt, hln, hnl, hfl, hcl1, g1, g2, g3, g4, w1, w2, x1, hnt, htk, hpl, hap, show ¬ (cr : Int) < (cw : Int) by omega, Int.natCast_zero, Int.toNat_natCast] <;> try with_reducible rfl) | apply Wp.block | apply Wp.exitS | apply Wp.retS | apply Wp.exit | apply Wp.ret | apply Wp.skip)
      apply round_next
      ·simp -implicitDefEqProofs (maxSteps := 2000000) (disch := first | exact tt_rfl rfl | omega | (simp only [go_sem] <;> omega) | fail) only [go_sem, norm_eq, Ok.some]; with_reducible rfl
      exact ⟨h, by simp, trivial⟩
     ·obtain rfl : i = d.rows.length := by omega
      repeat (first | apply Wp.seqA | apply Wp.skipS | apply Wp.blockS | ((first | apply Wp.regS | apply Wp.condV | apply Wp.reg | apply Wp.condW | apply fin_ret); simp -implicitDefEqProofs (maxSteps := 2000000) (disch := first | exact tt_rfl rfl | omega | (simp only [go_sem] <;> omega) | fail) only [go_sem, Int.lt_irrefl, hln, kn] <;> try with_reducible rfl) | apply Wp.block | apply Wp.exitS | apply Wp.retS | apply Wp.exit | apply Wp.ret | apply Wp.skip)
  ·have hno := other_no hd hbr.1 hoth hall
   rw [hno] at hBo
   repeat (first | apply Wp.seqA | apply Wp.skipS | apply Wp.blockS | ((first | apply Wp.regS | apply Wp.condV | apply Wp.reg | apply Wp.condW | apply fin_ret); simp -implicitDefEqProofs (maxSteps := 2000000) (disch := first | exact tt_rfl rfl | omega | (simp only [go_sem] <;> omega) | fail) only [go_sem, hnn, hBo, hol, hop, hotk, kn, List.length_nil, Int.natCast_zero] <;> try with_reducible rfl) | apply Wp.block | apply Wp.exitS | apply Wp.retS | apply Wp.exit | apply Wp.ret | apply Wp.skip)
end Go.Abs
