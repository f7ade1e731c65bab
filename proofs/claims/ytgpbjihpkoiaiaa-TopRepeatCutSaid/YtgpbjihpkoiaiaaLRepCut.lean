/-
 TopRepeatCut: lengths cut by the repeat. No condition beyond those that each theorem names.
-/
import Derived.Test.YtgpbjihpkoiaiaaTB
import Derived.Test.YtgpbjihpkoiaiaaYR
import Derived.Test.YtgpbjihpkoiaiaaU1
set_option linter.all false
namespace Go.Abs
set_option maxRecDepth 10000
set_option maxHeartbeats 8000000
theorem repcut_main (kp : lim F 41 [] = some (.bool true, [])) (kt : lim F 14 [] = some (.bool true, [])) (ks : lim F 16 [] = some (.bool true, [])) (x : LoomB) (q0 q1 q2 q3 q4 : ByteB) (bl : List ByteB) :
  lim F 5 [x.av, .agg [.int .u8 (q0.1 : Int), .int .u8 (q1.1 : Int), .int .u8 (q2.1 : Int), .int .u8 (q3.1 : Int), .int .u8 (q4.1 : Int)], .list 1 (bytesV bl)] = some (.bool true, []) := by
 have hd := arm_ok x;have hrw := arm_rows x;have hh := harn_ok x;have hhl := harn_len x;have hD := armDesign_ok x;have hH := armHarness_ok x;have hT := armTied_ok ((armN x).hk : Int) (harnN x) (by omega)
 have hW := tWeave_ok _ hh (armN x) hd rfl;unfold LoomB.av at *;unfold HarN.av at *;dsimp only at hW;generalize harnN x = hw at *;generalize bytesV x.warps = ws at *;generalize wordsV x.rows = es at *;generalize bytesV x.cards = cs at *;generalize (x.hooks.1 : Int) = hk0 at *;generalize armN x = d at *;have hO := armOwn_ok d (by omega)
 have hL := Least_ok d hd;obtain ⟨⟨a1, a2, a3⟩, -, -⟩ := least_facts hd;have hper := row_period hd;unfold DesN.av at *;change lim F _ [.agg [_, .list 1 (natsV d.rows)]] = _ at hL;change lim F _ [_, .agg [_, .list 1 (natsV d.rows)]] = _ at hW;have hln : (natsV d.rows).length = d.rows.length := by simp
 have hlw : (natsV hw).length = hw.length := by simp
 have hpd : (natsV d.rows).all AV.plain = true := nat_plain _;have hpw : (natsV hw).all AV.plain = true := nat_plain _;have htd : (natsV d.rows).take d.rows.length = natsV d.rows := List.take_of_length_le (by omega)
 have htw : (natsV hw).take hw.length = natsV hw := List.take_of_length_le (by omega)
 have hcl : (clothV d.rows hw).length = d.rows.length := by simp
 have hcg : ∀ i, i < d.rows.length → (clothV d.rows hw)[i]? = some (strA (pickB (d.rows.getD i 0) hw)) := fun i hi => by
  unfold clothV;rw [List.getElem?_map, List.getElem?_eq_getElem hi, List.getD_eq_getElem?_getD, List.getElem?_eq_getElem hi]; rfl
 have hcp2 : (clothV d.rows hw).all AV.plain = false := by
  rw [List.all_eq_false];exact ⟨_, List.mem_of_getElem? (hcg 0 (by omega)), by simp [AV.plain, AV.plain1]⟩
 have hct : (clothV d.rows hw).take d.rows.length = clothV d.rows hw := List.take_of_length_le (by omega)
 generalize clothV d.rows hw = CL at *;generalize leastP d = r at *;generalize hnn : d.rows.length = n at *;refine lim_by (fn := a5) (k := 3) (res := [.tmp 6]) rfl rfl rfl (by simp -implicitDefEqProofs (maxSteps := 2000000) (disch := first | exact tt_rfl rfl | omega | (simp only [go_sem] <;> omega) | fail) only [go_sem]) ?_
 try delta mvA
 try delta opA
 try delta tA
 simp -implicitDefEqProofs (maxSteps := 2000000) (disch := first | exact tt_rfl rfl | omega | (simp only [go_sem] <;> omega) | fail) only [go_sem]
 repeat (first | apply Wp.seqA | apply Wp.skipS | apply Wp.blockS | ((first | apply Wp.regS | apply Wp.condV | apply Wp.reg | apply Wp.condW | apply fin_ret); simp -implicitDefEqProofs (maxSteps := 2000000) (disch := first | exact tt_rfl rfl | omega | (simp only [go_sem] <;> omega) | fail) only [go_sem, hD, hH, hO, hL, hln, hlw, hpd, hpw, htd, htw, show ¬ (r : Int) < 1 by omega, show ¬ (n : Int) < r by omega] <;> try with_reducible rfl) | apply Wp.block | apply Wp.exitS | apply Wp.retS | apply Wp.exit | apply Wp.ret | apply Wp.skip)
 have e4 : Int.tmod (q4.1 : Int) (r : Int) = ((q4.1 % r : Nat) : Int) := by rw [Int.tmod_eq_emod_of_nonneg (Int.natCast_nonneg _)]; rfl
 have e20 : ∀ q : Nat, Int.tmod (q : Int) 20 = ((q % 20 : Nat) : Int) := fun q => by rw [Int.tmod_eq_emod_of_nonneg (Int.natCast_nonneg _)]; rfl
 have z0 := e20 q0.1;have z1 := e20 q1.1;have z2 := e20 q2.1;have z3 := e20 q3.1;have y0 := Nat.mod_lt q0.1 (show 0 < 20 by omega)
 have y1 := Nat.mod_lt q1.1 (show 0 < 20 by omega)
 have y2 := Nat.mod_lt q2.1 (show 0 < 20 by omega)
 have y3 := Nat.mod_lt q3.1 (show 0 < 20 by omega)
 have y4 := Nat.mod_lt q4.1 (show 0 < r by omega)
 clear e20;obtain ⟨q0, u0⟩ := q0;obtain ⟨q1, u1⟩ := q1;obtain ⟨q2, u2⟩ := q2;obtain ⟨q3, u3⟩ := q3;obtain ⟨q4, u4⟩ := q4;dsimp only at *;generalize hP : (fun i : Nat => 1 + [q0, q1, q2, q3].getD i 0 % 20) = P
 have hP0 : P 0 = 1 + q0 % 20 := by rw [← hP]; rfl
 have hP1 : P 1 = 1 + q1 % 20 := by rw [← hP]; rfl
 have hP2 : P 2 = 1 + q2 % 20 := by rw [← hP]; rfl
 have hP3 : P 3 = 1 + q3 % 20 := by rw [← hP]; rfl
 clear hP;generalize q4 % r = b at *;generalize q0 % 20 = c0 at *;generalize q1 % 20 = c1 at *;generalize q2 % 20 = c2 at *;generalize q3 % 20 = c3 at *;have hcs : ∀ i, (cuts4 b P (i + 1)).map Seam.Cut.av = (cuts4 b P i).map Seam.Cut.av ++ [.agg [iv (b : Int), iv ((P i : Nat) : Int)]] := fun i => by
  rw [cuts4_succ, List.map_append]; rfl
 have hcn : ∀ i, ((cuts4 b P i).map Seam.Cut.av).length = i := fun i => by simp
 have hcp : ∀ i, ((cuts4 b P i).map Seam.Cut.av).all AV.plain = true := fun i => Seam.cut_plain _
 apply Wp.loopF 4 (fun i => ⟨[(2, .list 1 (bytesV bl)), (4, .ptr 256 0 0), (7, .ptr 448 0 0), (8, .ptr 512 0 0), (9, iv (r : Int)), (12, .slice 768 0 i), (13, .slice 832 0 0), (14, iv 0), (15, iv (i : Int))], [(256, .box [.int .u8 (q0 : Int), .int .u8 (q1 : Int), .int .u8 (q2 : Int), .int .u8 (q3 : Int), .int .u8 (q4 : Int)]), (448, .box [iv (d.hk : Int), .slice 307169 0 hw.length]), (512, .box [iv (d.hk : Int), .slice 308193 0 n]), (768, .arr 2 ((cuts4 b P i).map Seam.Cut.av)), (832, .arr 1 []), (307169, .arr 1 (natsV hw)), (308193, .arr 1 (natsV d.rows))], [], 10000000⟩) (fun _ => True)
 ·simp -implicitDefEqProofs (maxSteps := 2000000) (disch := first | exact tt_rfl rfl | omega | (simp only [go_sem] <;> omega) | fail) only [go_sem, norm_eq, Ok.some]
  rfl
 ·trivial
 intro i hi _;have n1 := hcn i;have t1 : ((cuts4 b P i).map Seam.Cut.av).take i = (cuts4 b P i).map Seam.Cut.av := List.take_of_length_le (by omega)
 by_cases h' : i < 4
 ·rw [hcs i]
  clear hcs hcn hcp hcg hper;generalize (cuts4 b P i).map Seam.Cut.av = L at *;have hi4 : i = 0 ∨ i = 1 ∨ i = 2 ∨ i = 3 := by omega
  rcases hi4 with rfl | rfl | rfl | rfl
  ·rw [hP0]
   repeat (first | apply Wp.seqA | apply Wp.skipS | apply Wp.blockS | ((first | apply Wp.regS | apply Wp.condV | apply Wp.reg | apply Wp.condW | apply fin_ret); simp -implicitDefEqProofs (maxSteps := 2000000) (disch := first | exact tt_rfl rfl | omega | (simp only [go_sem] <;> omega) | fail) only [go_sem, e4, z0, n1, t1, show ¬ (r : Int) = 0 by omega] <;> try with_reducible rfl) | apply Wp.block | apply Wp.exitS | apply Wp.retS | apply Wp.exit | apply Wp.ret | apply Wp.skip)
   apply round_next
   ·simp -implicitDefEqProofs (maxSteps := 2000000) (disch := first | exact tt_rfl rfl | omega | (simp only [go_sem] <;> omega) | fail) only [go_sem, norm_eq, Ok.some]; with_reducible rfl
   exact ⟨h', by simp, trivial⟩
  ·rw [hP1]
   repeat (first | apply Wp.seqA | apply Wp.skipS | apply Wp.blockS | ((first | apply Wp.regS | apply Wp.condV | apply Wp.reg | apply Wp.condW | apply fin_ret); simp -implicitDefEqProofs (maxSteps := 2000000) (disch := first | exact tt_rfl rfl | omega | (simp only [go_sem] <;> omega) | fail) only [go_sem, e4, z1, n1, t1, show ¬ (r : Int) = 0 by omega] <;> try with_reducible rfl) | apply Wp.block | apply Wp.exitS | apply Wp.retS | apply Wp.exit | apply Wp.ret | apply Wp.skip)
   apply round_next
   ·simp -implicitDefEqProofs (maxSteps := 2000000) (disch := first | exact tt_rfl rfl | omega | (simp only [go_sem] <;> omega) | fail) only [go_sem, norm_eq, Ok.some]; with_reducible rfl
   exact ⟨h', by simp, trivial⟩
  ·rw [hP2]
   repeat (first | apply Wp.seqA | apply Wp.skipS | apply Wp.blockS | ((first | apply Wp.regS | apply Wp.condV | apply Wp.reg | apply Wp.condW | apply fin_ret); simp -implicitDefEqProofs (maxSteps := 2000000) (disch := first | exact tt_rfl rfl | omega | (simp only [go_sem] <;> omega) | fail) only [go_sem, e4, z2, n1, t1, show ¬ (r : Int) = 0 by omega] <;> try with_reducible rfl) | apply Wp.block | apply Wp.exitS | apply Wp.retS | apply Wp.exit | apply Wp.ret | apply Wp.skip)
   apply round_next
   ·simp -implicitDefEqProofs (maxSteps := 2000000) (disch := first | exact tt_rfl rfl | omega | (simp only [go_sem] <;> omega) | fail) only [go_sem, norm_eq, Ok.some]; with_reducible rfl
   exact ⟨h', by simp, trivial⟩
  ·rw [hP3]
   repeat (first | apply Wp.seqA | apply Wp.skipS | apply Wp.blockS | ((first | apply Wp.regS | apply Wp.condV | apply Wp.reg | apply Wp.condW | apply fin_ret); simp -implicitDefEqProofs (maxSteps := 2000000) (disch := first | exact tt_rfl rfl | omega | (simp only [go_sem] <;> omega) | fail) only [go_sem, e4, z3, n1, t1, show ¬ (r : Int) = 0 by omega] <;> try with_reducible rfl) | apply Wp.block | apply Wp.exitS | apply Wp.retS | apply Wp.exit | apply Wp.ret | apply Wp.skip)
   apply round_next
   ·simp -implicitDefEqProofs (maxSteps := 2000000) (disch := first | exact tt_rfl rfl | omega | (simp only [go_sem] <;> omega) | fail) only [go_sem, norm_eq, Ok.some]; with_reducible rfl
   exact ⟨h', by simp, trivial⟩
 obtain rfl : i = 4 := by omega
 repeat (first | apply Wp.seqA | apply Wp.skipS | apply Wp.blockS | ((first | apply Wp.regS | apply Wp.condV | apply Wp.reg | apply Wp.condW | apply fin_ret); simp -implicitDefEqProofs (maxSteps := 2000000) (disch := first | exact tt_rfl rfl | omega | (simp only [go_sem] <;> omega) | fail) only [go_sem] <;> try with_reducible rfl) | apply Wp.block | apply Wp.exitS | apply Wp.retS | apply Wp.exit | apply Wp.ret | apply Wp.skip)
 generalize hM : min bl.length 6 = M at *;have hM0 : M ≤ bl.length ∧ M ≤ 6 := by omega
 have lbl : (bytesV bl).length = bl.length := by simp
 have hgs : ∀ i, i < bl.length → (bytesV bl)[i]? = some (.int .u8 (((bl.getD i 0).1 : Nat) : Int)) := fun i h => by
  unfold bytesV;rw [List.getElem?_map, List.getElem?_eq_getElem h, List.getD_eq_getElem?_getD, List.getElem?_eq_getElem h]; rfl
 have hns : ∀ i, natsV (noneN bl (i + 1)) = natsV (noneN bl i) ++ [iv ((badN bl (i + 1) : Nat) : Int)] := fun i => by
  unfold natsV;rw [noneN_succ, List.map_append]; rfl
 have hnn2 : ∀ i, (natsV (noneN bl i)).length = i := fun i => by simp
 have hnp : ∀ i, (natsV (noneN bl i)).all AV.plain = true := fun i => nat_plain _
 have hbs : ∀ i, i < bl.length → badN bl (i + 1) = badN bl i + (1 + (bl.getD i 0).1 % 40) := fun i h => by
  rw [badN_succ bl h, List.getD_eq_getElem?_getD, List.getElem?_eq_getElem h]; rfl
 have hbl := badN_le bl;obtain ⟨st, need, hC, hnb, hS⟩ := cut4_ok r b bl M hM0.2 P (by omega) y4 (fun i hi => by
  have hi4 : i = 0 ∨ i = 1 ∨ i = 2 ∨ i = 3 := by omega
  rcases hi4 with rfl | rfl | rfl | rfl <;> omega) hM0.1
 have hSl : ((List.range 4).map fun i => iv ((st i : Nat) : Int)).length = 4 := by simp
 have hSp : ((List.range 4).map fun i => iv ((st i : Nat) : Int)).all AV.plain = true := rfl
 have hSg : ∀ i, i < 4 → ((List.range 4).map fun i => iv ((st i : Nat) : Int))[i]? = some (iv ((st i : Nat) : Int)) := fun i hi => by
  rw [List.getElem?_map, List.getElem?_range hi]; rfl
 have hSt : ((List.range 4).map fun i => iv ((st i : Nat) : Int)).take 4 = (List.range 4).map fun i => iv ((st i : Nat) : Int) := List.take_of_length_le (by simp)
 generalize ((List.range 4).map fun i => iv ((st i : Nat) : Int)) = SV at *
 have hng : ∀ i, i < M → (natsV (noneN bl M))[i]? = some (iv ((badN bl (i + 1) : Nat) : Int)) := fun i hi => by
  unfold natsV;rw [List.getElem?_map, noneN_at bl hi]; rfl
 have hCn := hcn 4;have hCp := hcp 4;have hCg : ∀ i, i < 4 → ((cuts4 b P 4).map Seam.Cut.av)[i]? = some (.agg [iv (b : Int), iv ((P i : Nat) : Int)]) := fun i hi => by
  rw [List.getElem?_map, cuts4_at b P hi]; rfl
 clear hcn hcp hcs;have hCt : ((cuts4 b P 4).map Seam.Cut.av).take 4 = (cuts4 b P 4).map Seam.Cut.av := List.take_of_length_le (by omega)
 generalize (cuts4 b P 4).map Seam.Cut.av = CV at *;apply Wp.loopF M (fun i => ⟨[(2, .list 1 (bytesV bl)), (7, .ptr 448 0 0), (8, .ptr 512 0 0), (9, iv (r : Int)), (12, .slice 768 0 4), (13, .slice 832 0 i), (14, iv ((badN bl i : Nat) : Int)), (16, iv (i : Int))], [(448, .box [iv (d.hk : Int), .slice 307169 0 hw.length]), (512, .box [iv (d.hk : Int), .slice 308193 0 n]), (768, .arr 2 CV), (832, .arr 1 (natsV (noneN bl i))), (307169, .arr 1 (natsV hw)), (308193, .arr 1 (natsV d.rows))], [], 10000000⟩) (fun _ => True)
 ·simp -implicitDefEqProofs (maxSteps := 2000000) (disch := first | exact tt_rfl rfl | omega | (simp only [go_sem] <;> omega) | fail) only [go_sem, norm_eq, Ok.some]
  rfl
 ·trivial
 intro i hi _;have n1 := hnn2 i;have t1 : (natsV (noneN bl i)).take i = natsV (noneN bl i) := List.take_of_length_le (by omega)
 by_cases h' : i < M
 ·have hil : i < bl.length := by omega
  have a1 := hgs i hil;have a2 := hbs i hil;have a3 := hbl i;rw [hns i, a2];have a4 : Int.tmod (((bl.getD i 0).1 : Nat) : Int) 40 = (((bl.getD i 0).1 % 40 : Nat) : Int) := by rw [Int.tmod_eq_emod_of_nonneg (Int.natCast_nonneg _)]; rfl
  have a5 := Nat.mod_lt (bl.getD i 0).1 (show 0 < 40 by omega)
  have a6 : (bl.getD i 0).1 < 256 := (bl.getD i 0).2;clear hgs hns hnn2 hnp hbs hbl hng hCg hcg hper hS;generalize (bl.getD i 0).1 = x at *;generalize x % 40 = y at *;generalize natsV (noneN bl i) = L at *;generalize badN bl i = B at *;repeat (first | apply Wp.seqA | apply Wp.skipS | apply Wp.blockS | ((first | apply Wp.regS | apply Wp.condV | apply Wp.reg | apply Wp.condW | apply fin_ret); simp -implicitDefEqProofs (maxSteps := 2000000) (disch := first | exact tt_rfl rfl | omega | (simp only [go_sem] <;> omega) | fail) only [go_sem, hil, Int.ofNat_lt, lbl, show (i : Int) < 6 by omega, a1, a4, n1, t1, Int.toNat_natCast] <;> try with_reducible rfl) | apply Wp.block | apply Wp.exitS | apply Wp.retS | apply Wp.exit | apply Wp.ret | apply Wp.skip)
  apply round_next
  ·simp -implicitDefEqProofs (maxSteps := 2000000) (disch := first | exact tt_rfl rfl | omega | (simp only [go_sem] <;> omega) | fail) only [go_sem, norm_eq, Ok.some]; with_reducible rfl
  exact ⟨h', by simp, trivial⟩
 obtain rfl : i = M := by omega
 have hx : ¬ (i : Int) < bl.length ∨ ((i : Int) < bl.length ∧ ¬ (i : Int) < 6) := by omega
 have pn := hnp i;clear hgs hns hnn2 hnp hbs hbl;have tn : (natsV (noneN bl i)).take i = natsV (noneN bl i) := t1;generalize natsV (noneN bl i) = NV at *;repeat (first | apply Wp.seqA | apply Wp.skipS | apply Wp.blockS | ((first | apply Wp.regS | apply Wp.condV | apply Wp.reg | apply Wp.condW | apply fin_ret); simp -implicitDefEqProofs (maxSteps := 2000000) (disch := first | exact tt_rfl rfl | omega | (simp only [go_sem] <;> omega) | fail) only [go_sem] <;> try with_reducible rfl) | apply Wp.block | apply Wp.exitS | apply Wp.retS | apply Wp.exit | apply Wp.ret | apply Wp.skip)
 ·refine (?_ : _ = some (⟨[(2, .list 1 (bytesV bl)), (7, .ptr 448 0 0), (8, .ptr 512 0 0), (9, iv (r : Int)), (12, .slice 768 0 4), (13, .slice 832 0 i), (14, iv ((badN bl i : Nat) : Int)), (16, iv (i : Int)), (78, .bool false)], [(448, .box [iv (d.hk : Int), .slice 307169 0 hw.length]), (512, .box [iv (d.hk : Int), .slice 308193 0 n]), (768, .arr 2 CV), (832, .arr 1 NV), (307169, .arr 1 (natsV hw)), (308193, .arr 1 (natsV d.rows))], [], 10000256⟩ : Fr))
  rcases hx with h | ⟨h, h2⟩
  ·simp -implicitDefEqProofs (maxSteps := 2000000) (disch := first | exact tt_rfl rfl | omega | (simp only [go_sem] <;> omega) | fail) only [go_sem, h, lbl]
  ·simp -implicitDefEqProofs (maxSteps := 2000000) (disch := first | exact tt_rfl rfl | omega | (simp only [go_sem] <;> omega) | fail) only [go_sem, h, h2, lbl]
 have hI := armInts_ok NV pn (by omega)
 repeat (first | apply Wp.seqA | apply Wp.skipS | apply Wp.blockS | ((first | apply Wp.regS | apply Wp.condV | apply Wp.reg | apply Wp.condW | apply fin_ret); simp -implicitDefEqProofs (maxSteps := 2000000) (disch := first | exact tt_rfl rfl | omega | (simp only [go_sem] <;> omega) | fail) only [go_sem, hI, hT, hO, hC, hW, hCn, hCt, hCp, n1, tn, pn, hlw, htw, hpw, hln, htd, hpd, hcl, hcp2, hct, hSl, hSp, hSt, show ((4 : Nat) : Int) = 4 from rfl] <;> try with_reducible rfl) | apply Wp.block | apply Wp.exitS | apply Wp.retS | apply Wp.exit | apply Wp.ret | apply Wp.skip)
 generalize hm : i = m at *;clear hm i;have hS0 := hS 0 (by omega)
 have hg0 := hSg 0 (by omega)
 have hc0 := hCg 0 (by omega)
 apply Wp.loopF 4 (fun i => ⟨[(12, .slice 768 0 4), (13, .slice 832 0 m), (17, .slice 1088 0 4), (18, iv need), (20, .slice 1280 0 n), (22, iv (i : Int))], [(768, .arr 2 CV), (832, .arr 1 NV), (1088, .arr 1 SV), (1280, .arr 1 CL)], [], 10000000⟩) (fun _ => True)
 ·simp -implicitDefEqProofs (maxSteps := 2000000) (disch := first | exact tt_rfl rfl | omega | (simp only [go_sem] <;> omega) | fail) only [go_sem, norm_eq, Ok.some]
 ·trivial
 intro i hi _;by_cases hge : ¬ i < 4
 ·obtain rfl : i = 4 := by omega
  repeat (first | apply Wp.seqA | apply Wp.skipS | apply Wp.blockS | ((first | apply Wp.regS | apply Wp.condV | apply Wp.reg | apply Wp.condW | apply fin_ret); simp -implicitDefEqProofs (maxSteps := 2000000) (disch := first | exact tt_rfl rfl | omega | (simp only [go_sem] <;> omega) | fail) only [go_sem, kp, kt, ks] <;> try with_reducible rfl) | apply Wp.block | apply Wp.exitS | apply Wp.retS | apply Wp.exit | apply Wp.ret | apply Wp.skip)
 have h' : i < 4 := by omega
 clear hge;have b1 := hSg i h';have b2 := hCg i h';obtain ⟨c1, c2, c3⟩ := hS i h';obtain ⟨d1, d2, d3⟩ := hS0;clear hSg hCg hS;generalize hsi : st i = s at *;generalize hs0 : st 0 = s0 at *;generalize hPi : P i = p at *;generalize hPz : P 0 = p0 at *;repeat (first | apply Wp.seqA | apply Wp.skipS | apply Wp.blockS | ((first | apply Wp.regS | apply Wp.condV | apply Wp.reg | apply Wp.condW | apply fin_ret); simp -implicitDefEqProofs (maxSteps := 2000000) (disch := first | exact tt_rfl rfl | omega | (simp only [go_sem] <;> omega) | fail) only [go_sem, show (i : Int) < 4 by omega, h', b1, b2, hSl, hCn, Int.toNat_natCast, show ¬ (s : Int) < 0 by omega, show ¬ need < (s : Int) + (p : Int) by omega] <;> try with_reducible rfl) | apply Wp.block | apply Wp.exitS | apply Wp.retS | apply Wp.exit | apply Wp.ret | apply Wp.skip)
 apply Wp.loopF p (fun k => ⟨[(12, .slice 768 0 4), (13, .slice 832 0 m), (17, .slice 1088 0 4), (18, iv need), (20, .slice 1280 0 n), (22, iv (i : Int)), (23, iv (k : Int))], [(768, .arr 2 CV), (832, .arr 1 NV), (1088, .arr 1 SV), (1280, .arr 1 CL)], [], 10000000⟩) (fun _ => True)
 ·simp -implicitDefEqProofs (maxSteps := 2000000) (disch := first | exact tt_rfl rfl | omega | (simp only [go_sem] <;> omega) | fail) only [go_sem, norm_eq, Ok.some]
 ·trivial
 intro k hk _;by_cases hge : ¬ k < p
 ·obtain rfl : k = p := by omega
  repeat (first | apply Wp.seqA | apply Wp.skipS | apply Wp.blockS | ((first | apply Wp.regS | apply Wp.condV | apply Wp.reg | apply Wp.condW | apply fin_ret); simp -implicitDefEqProofs (maxSteps := 2000000) (disch := first | exact tt_rfl rfl | omega | (simp only [go_sem] <;> omega) | fail) only [go_sem, h', Int.ofNat_lt, b2, hCn, Int.toNat_natCast, show ¬ (k : Int) < (k : Int) by omega] <;> try with_reducible rfl) | apply Wp.block | apply Wp.exitS | apply Wp.retS | apply Wp.exit | apply Wp.ret | apply Wp.skip)
  apply round_next
  ·simp -implicitDefEqProofs (maxSteps := 2000000) (disch := first | exact tt_rfl rfl | omega | (simp only [go_sem] <;> omega) | fail) only [go_sem, norm_eq, Ok.some]; with_reducible rfl
  exact ⟨h', by simp, trivial⟩
 have h2 : k < p := by omega
 clear hge;have eq2 : pickB (d.rows.getD ((s + k) % n) 0) hw = pickB (d.rows.getD ((s0 + k) % n) 0) hw := by
  rw [hper (s + k), hper (s0 + k), Nat.add_mod s k r, Nat.add_mod s0 k r, c1, d1]
 have f1 := hcg ((s + k) % n) (Nat.mod_lt _ (by omega))
 have f2 := hcg ((s0 + k) % n) (Nat.mod_lt _ (by omega))
 rw [eq2] at f1;have m1 := Nat.mod_lt (s + k) (show 0 < n by omega)
 have m2 := Nat.mod_lt (s0 + k) (show 0 < n by omega)
 have e1 : Int.tmod ((s : Int) + k) (n : Int) = (((s + k) % n : Nat) : Int) := by rw [Int.tmod_eq_emod_of_nonneg (by omega)]; rfl
 have e2 : Int.tmod ((s0 : Int) + k) (n : Int) = (((s0 + k) % n : Nat) : Int) := by rw [Int.tmod_eq_emod_of_nonneg (by omega)]; rfl
 clear eq2 hper hcg;generalize pickB (d.rows.getD ((s0 + k) % n) 0) hw = sb at *;generalize (s + k) % n = y1 at *;generalize (s0 + k) % n = y2 at *;repeat (first | apply Wp.seqA | apply Wp.skipS | apply Wp.blockS | ((first | apply Wp.regS | apply Wp.condV | apply Wp.reg | apply Wp.condW | apply fin_ret); simp -implicitDefEqProofs (maxSteps := 2000000) (disch := first | exact tt_rfl rfl | omega | (simp only [go_sem] <;> omega) | fail) only [go_sem, h', h2, Int.ofNat_lt, b1, b2, hSl, hCn, Int.toNat_natCast] <;> try with_reducible rfl) | apply Wp.block | apply Wp.exitS | apply Wp.retS | apply Wp.exit | apply Wp.ret | apply Wp.skip)
 apply Wp.loopF m (fun j => ⟨[(12, .slice 768 0 4), (13, .slice 832 0 m), (17, .slice 1088 0 4), (18, iv need), (20, .slice 1280 0 n), (22, iv (i : Int)), (23, iv (k : Int)), (24, iv ((s : Int) + k)), (25, iv (j : Int))], [(768, .arr 2 CV), (832, .arr 1 NV), (1088, .arr 1 SV), (1280, .arr 1 CL)], [], 10000000⟩) (fun _ => True)
 ·simp -implicitDefEqProofs (maxSteps := 2000000) (disch := first | exact tt_rfl rfl | omega | (simp only [go_sem] <;> omega) | fail) only [go_sem, norm_eq, Ok.some]
 ·trivial
 intro j hj _;by_cases h3 : j < m
 ·have g1 := hng j h3
  have g2 := c3 j h3;clear hng c3 d3;generalize badN bl (j + 1) = z at *;repeat (first | apply Wp.seqA | apply Wp.skipS | apply Wp.blockS | ((first | apply Wp.regS | apply Wp.condV | apply Wp.reg | apply Wp.condW | apply fin_ret); simp -implicitDefEqProofs (maxSteps := 2000000) (disch := first | exact tt_rfl rfl | omega | (simp only [go_sem] <;> omega) | fail) only [go_sem, h3, Int.ofNat_lt, g1, n1, Int.toNat_natCast, show ¬ (z : Int) = (s : Int) + k by omega] <;> try with_reducible rfl) | apply Wp.block | apply Wp.exitS | apply Wp.retS | apply Wp.exit | apply Wp.ret | apply Wp.skip)
  apply round_next
  ·simp -implicitDefEqProofs (maxSteps := 2000000) (disch := first | exact tt_rfl rfl | omega | (simp only [go_sem] <;> omega) | fail) only [go_sem, norm_eq, Ok.some]; with_reducible rfl
  exact ⟨h3, by simp, trivial⟩
 obtain rfl : j = m := by omega
 clear hng c3 d3;by_cases h4 : (k : Int) < p0
 ·repeat (first | apply Wp.seqA | apply Wp.skipS | apply Wp.blockS | ((first | apply Wp.regS | apply Wp.condV | apply Wp.reg | apply Wp.condW | apply fin_ret); simp -implicitDefEqProofs (maxSteps := 2000000) (disch := first | exact tt_rfl rfl | omega | (simp only [go_sem] <;> omega) | fail) only [go_sem, h3, Int.ofNat_lt, h4, hc0, hg0, e1, e2, f1, f2, m1, m2, hcl, hCn, hSl, Int.toNat_natCast, show ¬ (n : Int) = 0 by omega, beq_self_eq_true] <;> try with_reducible rfl) | apply Wp.block | apply Wp.exitS | apply Wp.retS | apply Wp.exit | apply Wp.ret | apply Wp.skip)
  apply round_next
  ·simp -implicitDefEqProofs (maxSteps := 2000000) (disch := first | exact tt_rfl rfl | omega | (simp only [go_sem] <;> omega) | fail) only [go_sem, norm_eq, Ok.some]; with_reducible rfl
  exact ⟨h2, by simp, trivial⟩
 ·repeat (first | apply Wp.seqA | apply Wp.skipS | apply Wp.blockS | ((first | apply Wp.regS | apply Wp.condV | apply Wp.reg | apply Wp.condW | apply fin_ret); simp -implicitDefEqProofs (maxSteps := 2000000) (disch := first | exact tt_rfl rfl | omega | (simp only [go_sem] <;> omega) | fail) only [go_sem, h3, Int.ofNat_lt, h4, hc0, hCn, Int.toNat_natCast] <;> try with_reducible rfl) | apply Wp.block | apply Wp.exitS | apply Wp.retS | apply Wp.exit | apply Wp.ret | apply Wp.skip)
  apply round_next
  ·simp -implicitDefEqProofs (maxSteps := 2000000) (disch := first | exact tt_rfl rfl | omega | (simp only [go_sem] <;> omega) | fail) only [go_sem, norm_eq, Ok.some]; with_reducible rfl
  exact ⟨h2, by simp, trivial⟩
end Go.Abs
