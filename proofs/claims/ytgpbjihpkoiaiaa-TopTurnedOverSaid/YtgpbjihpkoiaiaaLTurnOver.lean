/-
 TopTurnedOver: a chain whose cards all lie turned weaves the mirrored design. No condition beyond those that each theorem names.
-/
import Derived.Test.YtgpbjihpkoiaiaaTB
import Derived.Test.YtgpbjihpkoiaiaaTM
import Derived.Test.YtgpbjihpkoiaiaaTN
set_option linter.all false
namespace Go.Abs
set_option maxRecDepth 10000
set_option maxHeartbeats 8000000
theorem turnover_main (kp : lim F 41 [] = some (.bool true, [])) (kc : lim F 48 [] = some (.bool true, [])) (kt : lim F 14 [] = some (.bool true, [])) (x : LoomB) :
  lim F 6 [x.av] = some (.bool true, []) := by
 have hd := arm_ok x;have hrw := arm_rows x;have hD := armDesign_ok x;have h12 : (armN x).hk ≤ 12 := by unfold armN; dsimp only; omega
 unfold LoomB.av at *;generalize bytesV x.warps = ws at *;generalize wordsV x.rows = es at *;generalize bytesV x.cards = cs at *;generalize (x.hooks.1 : Int) = hk0 at *;generalize armN x = d at *;have hh1 := hd.h1;have hO := armOwn_ok d (by omega)
 have hP := Punch_ok d hd;rw [← turn_zero] at hP;have hMk := Make_one d.hk hh1 h12;rw [strW_one, show ((1 : Nat) : Int) = 1 from rfl] at hMk
 have hM := Mirror_ok d hd;have hB := Back_ok d hd;have hH := straight_ok (t := 1) hh1 hd.h24 (by omega) (by omega)
 rw [strW_one] at hH;have hT := armTied_ok (d.hk : Int) (List.range d.hk) (by simp; omega)
 have hW1 := tWeave_ok _ hH d hd rfl;have hW2 := tWeave_ok _ hH (mirrorN d) (mirN_okC hd) rfl;have hW3 := tWeave_ok _ hH (backN d) (backN_okC hd) rfl;have hR := armRound_ok d.rows.length 1 (by omega)
 rw [Nat.mul_one, show ((1 : Nat) : Int) = 1 from rfl] at hR
 obtain ⟨at', hV⟩ := Weave_turned12 d hd h12;have lm : (mirrorN d).rows.length = d.rows.length := by simp [mirrorN, madeN]
 have lb : (backN d).rows.length = d.rows.length := by simp [backN, madeN]
 have hS := armSame_self (mirrorN d).rows (by omega)
 have hI := armInts_ok (natsV (mirrorN d).rows) (nat_plain _) (by simp [lm]; omega)
 have hts := turn_setC d;have htg : ∀ j : Nat, j < d.rows.length → ((turnN d j).cards.map CardN.av)[j]? = some (.agg [iv (j : Int), iv (d.rows.getD j 0 : Int), .bool false]) := fun j h => by
  rw [List.getElem?_map, turn_at d j j h]; simp [CardN.av]
 have htl : ∀ k, ((turnN d k).cards.map CardN.av).length = d.rows.length := fun k => by rw [List.length_map, turn_len]
 have htp : ∀ k, ((turnN d k).cards.map CardN.av).all AV.plain = true := fun k => card_plain _
 have htk : ∀ k, ((turnN d k).cards.map CardN.av).take d.rows.length = (turnN d k).cards.map CardN.av := fun k => List.take_of_length_le (by rw [htl]; omega)
 have hg1 : ∀ p, p < d.rows.length → (clothV d.rows (List.range d.hk))[p]? = some (strA (pickB (d.rows.getD p 0) (List.range d.hk))) := fun p hp => cloth_at hp
 have hg2 : ∀ p, p < d.rows.length → (clothV (mirrorN d).rows (List.range d.hk))[p]? = some (strA (pickB ((mirrorN d).rows.getD p 0) (List.range d.hk))) := fun p hp => cloth_at (by omega)
 have hg3 : ∀ p, p < d.rows.length → (clothV (backN d).rows (List.range d.hk))[p]? = some (strA (pickB ((backN d).rows.getD p 0) (List.range d.hk))) := fun p hp => cloth_at (by omega)
 have hb1 := cloth_bad (ws := List.range d.hk) hrw.1;have hb2 := cloth_bad (ws := List.range d.hk) (rows := (mirrorN d).rows) (by omega)
 have hb3 := cloth_bad (ws := List.range d.hk) (rows := (backN d).rows) (by omega)
 have c1 : (clothV d.rows (List.range d.hk)).length = d.rows.length := by simp
 have c2 : (clothV (mirrorN d).rows (List.range d.hk)).length = d.rows.length := by simp [lm]
 have c3 : (clothV (backN d).rows (List.range d.hk)).length = d.rows.length := by simp [lb]
 have u1 : (clothV d.rows (List.range d.hk)).take d.rows.length = clothV d.rows (List.range d.hk) := List.take_of_length_le (by omega)
 have u2 : (clothV (mirrorN d).rows (List.range d.hk)).take d.rows.length = clothV (mirrorN d).rows (List.range d.hk) := List.take_of_length_le (by omega)
 have u3 : (clothV (backN d).rows (List.range d.hk)).take d.rows.length = clothV (backN d).rows (List.range d.hk) := List.take_of_length_le (by omega)
 have ld : (natsV d.rows).length = d.rows.length := by simp
 have lM : (natsV (mirrorN d).rows).length = d.rows.length := by simp [lm]
 have lB : (natsV (backN d).rows).length = d.rows.length := by simp [lb]
 have lH : (natsV (List.range d.hk)).length = d.hk := by simp
 have lo : (natsV (List.replicate d.rows.length 1)).length = d.rows.length := by simp [natsV]
 have pd : (natsV d.rows).all AV.plain = true := nat_plain _;have pM : (natsV (mirrorN d).rows).all AV.plain = true := nat_plain _;have pB : (natsV (backN d).rows).all AV.plain = true := nat_plain _;have pH : (natsV (List.range d.hk)).all AV.plain = true := nat_plain _;have po : (natsV (List.replicate d.rows.length 1)).all AV.plain = true := nat_plain _;have td : (natsV d.rows).take d.rows.length = natsV d.rows := List.take_of_length_le (by omega)
 have tM : (natsV (mirrorN d).rows).take d.rows.length = natsV (mirrorN d).rows := List.take_of_length_le (by omega)
 have tB : (natsV (backN d).rows).take d.rows.length = natsV (backN d).rows := List.take_of_length_le (by omega)
 have tH : (natsV (List.range d.hk)).take d.hk = natsV (List.range d.hk) := List.take_of_length_le (by omega)
 have to : (natsV (List.replicate d.rows.length 1)).take d.rows.length = natsV (List.replicate d.rows.length 1) := List.take_of_length_le (by omega)
 have hmb : ∀ p w, p < d.rows.length → w < d.hk → ((mirrorN d).rows.getD p 0).testBit (d.hk - 1 - w) = (d.rows.getD p 0).testBit w := fun p w hp hw => mir_bit hd hp hw
 have hbb : ∀ p w, p < d.rows.length → w < d.hk → ((backN d).rows.getD p 0).testBit w = !(d.rows.getD p 0).testBit w := fun p w hp hw => back_bit hp hw
 have hat : ∀ r w, w < d.hk → (((pickB r (List.range d.hk)).getD w 0).toNat : Int) = if r.testBit w then 120 else 46 := fun r w hw => pick_at r (List.getElem?_range hw)
 have hpl : ∀ r, (pickB r (List.range d.hk)).length = d.hk := fun r => by simp
 unfold HarN.av DesN.av at *;unfold DesN.out at *;dsimp only at hW1 hW2 hW3;change lim F _ [.agg [_, .list 1 (natsV d.rows)]] = _ at hP;change lim F _ [.agg [_, .list 1 (natsV d.rows)]] = some (AV.tuple [.agg [_, .own 1 (natsV (mirrorN d).rows)], _], []) at hM;change lim F _ [.agg [_, .list 1 (natsV d.rows)]] = some (AV.tuple [.agg [_, .own 1 (natsV (backN d).rows)], _], []) at hB;change lim F _ [_, .agg [_, .list 1 (natsV d.rows)]] = _ at hW1;change lim F _ [_, .agg [_, .list 1 (natsV (mirrorN d).rows)]] = _ at hW2;change lim F _ [_, .agg [_, .list 1 (natsV (backN d).rows)]] = _ at hW3;have e1 : (mirrorN d).hk = d.hk := rfl;have e2 : (backN d).hk = d.hk := rfl;rw [e1] at hM hW2;rw [e2] at hB hW3;generalize natsV (List.replicate d.rows.length 1) = ov at *;generalize clothV d.rows (List.range d.hk) = C1 at *;generalize clothV (mirrorN d).rows (List.range d.hk) = C2 at *;generalize clothV (backN d).rows (List.range d.hk) = C3 at *;generalize natsV (mirrorN d).rows = Mv at *;generalize natsV (backN d).rows = Bv at *;generalize natsV (List.range d.hk) = Hv at *;generalize natsV d.rows = Rv at *;generalize hn : d.rows.length = n at *;generalize hH' : d.hk = H at *;refine lim_by (fn := a6) (k := 1) (res := [.tmp 2]) rfl rfl rfl (by simp -implicitDefEqProofs (maxSteps := 2000000) (disch := first | exact tt_rfl rfl | omega | (simp only [go_sem] <;> omega) | fail) only [go_sem]) ?_
 try delta mvA
 try delta opA
 try delta tA
 simp -implicitDefEqProofs (maxSteps := 2000000) (disch := first | exact tt_rfl rfl | omega | (simp only [go_sem] <;> omega) | fail) only [go_sem]
 repeat (first | apply Wp.seqA | apply Wp.skipS | apply Wp.blockS | ((first | apply Wp.regS | apply Wp.condV | apply Wp.reg | apply Wp.condW | apply fin_ret); simp -implicitDefEqProofs (maxSteps := 2000000) (disch := first | exact tt_rfl rfl | omega | (simp only [go_sem] <;> omega) | fail) only [go_sem, hD, hO, hP, hMk, hM, hB, ld, pd, td, lM, pM, tM, lB, pB, tB, lH, pH, tH, htl, htk, htp] <;> try with_reducible rfl) | apply Wp.block | apply Wp.exitS | apply Wp.retS | apply Wp.exit | apply Wp.ret | apply Wp.skip)
 apply Wp.loopF n (fun k => ⟨[(3, .ptr 192 0 0), (4, iv (n : Int)), (5, .ptr 320 0 0), (7, .ptr 448 0 0), (10, .ptr 640 0 0), (12, .ptr 768 0 0), (14, iv (k : Int))], [(192, .box [iv (H : Int), .slice 303073 0 n]), (320, .box [iv (H : Int), .slice 305121 0 n]), (448, .box [iv (H : Int), .slice 307169 0 H]), (640, .box [iv (H : Int), .slice 310241 0 n]), (768, .box [iv (H : Int), .slice 312289 0 n]), (303073, .arr 1 Rv), (305121, .arr 3 ((turnN d k).cards.map CardN.av)), (307169, .arr 1 Hv), (310241, .arr 1 Mv), (312289, .arr 1 Bv)], [], 10000000⟩) (fun _ => True)
 ·simp -implicitDefEqProofs (maxSteps := 2000000) (disch := first | exact tt_rfl rfl | omega | (simp only [go_sem] <;> omega) | fail) only [go_sem, norm_eq, Ok.some]
  rfl
 ·trivial
 intro k hk _;by_cases h2 : k < n
 ·have g1 := htg k h2
  have g2 := hts k h2;have g3 := htl k;rw [← g2];clear hts htg htl htp htk hmb hbb hat hpl hg1 hg2 hg3;generalize (turnN d k).cards.map CardN.av = es at *;repeat (first | apply Wp.seqA | apply Wp.skipS | apply Wp.blockS | ((first | apply Wp.regS | apply Wp.condV | apply Wp.reg | apply Wp.condW | apply fin_ret); simp -implicitDefEqProofs (maxSteps := 2000000) (disch := first | exact tt_rfl rfl | omega | (simp only [go_sem] <;> omega) | fail) only [go_sem, h2, Int.ofNat_lt, g1, g3, Int.toNat_natCast] <;> try with_reducible rfl) | apply Wp.block | apply Wp.exitS | apply Wp.retS | apply Wp.exit | apply Wp.ret | apply Wp.skip)
  apply round_next
  ·simp -implicitDefEqProofs (maxSteps := 2000000) (disch := first | exact tt_rfl rfl | omega | (simp only [go_sem] <;> omega) | fail) only [go_sem, norm_eq, Ok.some]; with_reducible rfl
  exact ⟨h2, by simp, trivial⟩
 obtain rfl : k = n := by omega
 have g3 := htl k;have g4 := htk k;have g5 := htp k;clear hts htg htl htp htk;generalize (turnN d k).cards.map CardN.av = es at *;repeat (first | apply Wp.seqA | apply Wp.skipS | apply Wp.blockS | ((first | apply Wp.regS | apply Wp.condV | apply Wp.reg | apply Wp.condW | apply fin_ret); simp -implicitDefEqProofs (maxSteps := 2000000) (disch := first | exact tt_rfl rfl | omega | (simp only [go_sem] <;> omega) | fail) only [go_sem, h2, Int.ofNat_lt, g3, g4, g5, hR, lo, to, po, hV, hT, lH, tH, pH, hO, ld, td, pd, hW1, hI, lM, tM, pM, hW2, lB, tB, pB, hW3, hS, hb1, hb2, hb3, c1, c2, c3, u1, u2, u3] <;> try with_reducible rfl) | apply Wp.block | apply Wp.exitS | apply Wp.retS | apply Wp.exit | apply Wp.ret | apply Wp.skip)
 clear hR lo to po hV hT lH tH pH hO ld td pd hW1 hI lM tM pM hW2 lB tB pB hW3 hS hb1 hb2 hb3 u1 u2 u3 g3 g4 g5 hD hP hMk hM hB;apply Wp.loopF k (fun p => ⟨[(3, .ptr 192 0 0), (4, iv (k : Int)), (18, .slice 1152 0 k), (20, .slice 1280 0 k), (22, .slice 1408 0 k), (24, iv (p : Int))], [(192, .box [iv (H : Int), .slice 303073 0 k]), (1152, .arr 1 C1), (1280, .arr 1 C2), (1408, .arr 1 C3), (303073, .arr 1 Rv)], [], 10000000⟩) (fun _ => True)
 ·simp -implicitDefEqProofs (maxSteps := 2000000) (disch := first | exact tt_rfl rfl | omega | (simp only [go_sem] <;> omega) | fail) only [go_sem, norm_eq, Ok.some]
  rfl
 ·trivial
 intro p hp _;by_cases h3 : p < k
 ·have f1 := hg1 p h3
  have f2 := hg2 p h3;have f3 := hg3 p h3;have m1 := fun w hw => hmb p w h3 hw
  have m2 := fun w hw => hbb p w h3 hw
  have s1 := hat (d.rows.getD p 0);have s2 := hat ((mirrorN d).rows.getD p 0);have s3 := hat ((backN d).rows.getD p 0);have l1 := hpl (d.rows.getD p 0);have l2 := hpl ((mirrorN d).rows.getD p 0);have l3 := hpl ((backN d).rows.getD p 0);clear hg1 hg2 hg3 hmb hbb hat hpl;generalize (mirrorN d).rows.getD p 0 = r2 at *;generalize (backN d).rows.getD p 0 = r3 at *;generalize d.rows.getD p 0 = r1 at *;generalize pickB r1 (List.range H) = b1 at *;generalize pickB r2 (List.range H) = b2 at *;generalize pickB r3 (List.range H) = b3 at *;repeat (first | apply Wp.seqA | apply Wp.skipS | apply Wp.blockS | ((first | apply Wp.regS | apply Wp.condV | apply Wp.reg | apply Wp.condW | apply fin_ret); simp -implicitDefEqProofs (maxSteps := 2000000) (disch := first | exact tt_rfl rfl | omega | (simp only [go_sem] <;> omega) | fail) only [go_sem, h3, Int.ofNat_lt, f1, f2, f3, c1, c2, c3, l1, l2, l3, Int.toNat_natCast] <;> try with_reducible rfl) | apply Wp.block | apply Wp.exitS | apply Wp.retS | apply Wp.exit | apply Wp.ret | apply Wp.skip)
  apply Wp.loopF H (fun w => ⟨[(3, .ptr 192 0 0), (4, iv (k : Int)), (18, .slice 1152 0 k), (20, .slice 1280 0 k), (22, .slice 1408 0 k), (24, iv (p : Int)), (25, iv (w : Int))], [(192, .box [iv (H : Int), .slice 303073 0 k]), (1152, .arr 1 C1), (1280, .arr 1 C2), (1408, .arr 1 C3), (303073, .arr 1 Rv)], [], 10000000⟩) (fun _ => True)
  ·simp -implicitDefEqProofs (maxSteps := 2000000) (disch := first | exact tt_rfl rfl | omega | (simp only [go_sem] <;> omega) | fail) only [go_sem, norm_eq, Ok.some]
   rfl
  ·trivial
  intro w hw _;by_cases h4 : w < H
  ·have t1 := s1 w h4
   have t2 := s2 (H - 1 - w) (by omega)
   have t3 := s3 w h4;rw [m1 w h4] at t2;rw [m2 w h4] at t3;have e1 : ((H : Int) - 1 - (w : Int)).toNat = H - 1 - w := by omega
   have e2 : (0 : Int) ≤ (H : Int) - 1 - (w : Int) := by omega
   have e3 : (H : Int) - 1 - (w : Int) < H := by omega
   clear s1 s2 s3 m1 m2;rcases Bool.eq_false_or_eq_true (r1.testBit w) with hb | hb
   ·rw [hb] at t1 t2 t3
    simp only [if_true, Bool.not_true, Bool.false_eq_true, if_false] at t1 t2 t3;repeat (first | apply Wp.seqA | apply Wp.skipS | apply Wp.blockS | ((first | apply Wp.regS | apply Wp.condV | apply Wp.reg | apply Wp.condW | apply fin_ret); simp -implicitDefEqProofs (maxSteps := 2000000) (disch := first | exact tt_rfl rfl | omega | (simp only [go_sem] <;> omega) | fail) only [go_sem, h3, h4, Int.ofNat_lt, f1, f2, f3, c1, c2, c3, l1, l2, l3, t1, t2, t3, e1, e2, e3, Int.toNat_natCast] <;> try with_reducible rfl) | apply Wp.block | apply Wp.exitS | apply Wp.retS | apply Wp.exit | apply Wp.ret | apply Wp.skip)
    apply round_next
    ·simp -implicitDefEqProofs (maxSteps := 2000000) (disch := first | exact tt_rfl rfl | omega | (simp only [go_sem] <;> omega) | fail) only [go_sem, norm_eq, Ok.some]; with_reducible rfl
    exact ⟨h4, by simp, trivial⟩
   ·rw [hb] at t1 t2 t3
    simp only [if_true, Bool.not_false, Bool.false_eq_true, if_false] at t1 t2 t3;repeat (first | apply Wp.seqA | apply Wp.skipS | apply Wp.blockS | ((first | apply Wp.regS | apply Wp.condV | apply Wp.reg | apply Wp.condW | apply fin_ret); simp -implicitDefEqProofs (maxSteps := 2000000) (disch := first | exact tt_rfl rfl | omega | (simp only [go_sem] <;> omega) | fail) only [go_sem, h3, h4, Int.ofNat_lt, f1, f2, f3, c1, c2, c3, l1, l2, l3, t1, t2, t3, e1, e2, e3, Int.toNat_natCast] <;> try with_reducible rfl) | apply Wp.block | apply Wp.exitS | apply Wp.retS | apply Wp.exit | apply Wp.ret | apply Wp.skip)
    apply round_next
    ·simp -implicitDefEqProofs (maxSteps := 2000000) (disch := first | exact tt_rfl rfl | omega | (simp only [go_sem] <;> omega) | fail) only [go_sem, norm_eq, Ok.some]; with_reducible rfl
    exact ⟨h4, by simp, trivial⟩
  ·obtain rfl : w = H := by omega
   repeat (first | apply Wp.seqA | apply Wp.skipS | apply Wp.blockS | ((first | apply Wp.regS | apply Wp.condV | apply Wp.reg | apply Wp.condW | apply fin_ret); simp -implicitDefEqProofs (maxSteps := 2000000) (disch := first | exact tt_rfl rfl | omega | (simp only [go_sem] <;> omega) | fail) only [go_sem, h4, Int.ofNat_lt] <;> try with_reducible rfl) | apply Wp.block | apply Wp.exitS | apply Wp.retS | apply Wp.exit | apply Wp.ret | apply Wp.skip)
   apply round_next
   ·simp -implicitDefEqProofs (maxSteps := 2000000) (disch := first | exact tt_rfl rfl | omega | (simp only [go_sem] <;> omega) | fail) only [go_sem, norm_eq, Ok.some]; with_reducible rfl
   exact ⟨h3, by simp, trivial⟩
 ·obtain rfl : p = k := by omega
  repeat (first | apply Wp.seqA | apply Wp.skipS | apply Wp.blockS | ((first | apply Wp.regS | apply Wp.condV | apply Wp.reg | apply Wp.condW | apply fin_ret); simp -implicitDefEqProofs (maxSteps := 2000000) (disch := first | exact tt_rfl rfl | omega | (simp only [go_sem] <;> omega) | fail) only [go_sem, h3, Int.ofNat_lt, kp, kc, kt] <;> try with_reducible rfl) | apply Wp.block | apply Wp.exitS | apply Wp.retS | apply Wp.exit | apply Wp.ret | apply Wp.skip)
end Go.Abs
