/-
 TopTurned: turned cards weave the mirror, a chain that is taken backwards the flipped design. No condition beyond those that each theorem names.
-/
import Derived.Test.YtlikmkicmpppdaaCT
set_option linter.all false
namespace Go.Abs
set_option maxRecDepth 10000
set_option maxHeartbeats 8000000
theorem mirN_ok {d : DesN} (hd : d.Ok) : (mirrorN d).Ok where
 h1 := hd.h1
 h24 := hd.h24
 r1 := by simpa [mirrorN, madeN] using hd.r1
 r60 := by simpa [mirrorN, madeN] using hd.r60
 lt := fun r hr => by
  rw [mirror_rows hd] at hr;obtain ⟨q, _, rfl⟩ := List.mem_map.1 hr;exact mirR_lt _ _
theorem mirN_len (d : DesN) : (mirrorN d).rows.length = d.rows.length := by simp [mirrorN, madeN]
theorem mirN_twice {d : DesN} (hd : d.Ok) : (mirrorN (mirrorN d)).rows = d.rows := by
 rw [mirror_rows (mirN_ok hd), mirror_rows hd, List.map_map]
 conv => rhs; rw [← List.map_id d.rows]
 exact List.map_congr_left fun r hr => mirR_twice (hd.lt r hr)
theorem turn_set (d : DesN) (i : Nat) (h : i < d.rows.length) : ((turnN d i).cards.map CardN.av).set i (.agg [iv (i : Int), iv (d.rows.getD i 0 : Int), .bool true]) = (turnN d (i + 1)).cards.map CardN.av := by
 apply List.ext_getElem?;intro j;by_cases hj : j = i
 ·subst hj
  rw [List.getElem?_set_self (by rw [List.length_map, turn_len]; exact h), List.getElem?_map, turn_at d _ j h]
  simp [CardN.av]
 ·rw [List.getElem?_set_ne (Ne.symm hj), List.getElem?_map, List.getElem?_map]
  by_cases hjn : j < d.rows.length
  ·rw [turn_at d _ j hjn, turn_at d _ j hjn]
   have : decide (j < i) = decide (j < i + 1) := by
    by_cases h1 : j < i
    ·rw [decide_eq_true h1, decide_eq_true (by omega)]
    ·rw [decide_eq_false h1, decide_eq_false (by omega)]
   rw [this]
  ·rw [List.getElem?_eq_none (by rw [turn_len]; omega), List.getElem?_eq_none (by rw [turn_len]; omega)]
theorem backs_take (d : DesN) (k : Nat) (h : k < d.rows.length) : ((backsN d).cards.map CardN.av).take (k + 1) = ((backsN d).cards.map CardN.av).take k ++ [.agg [iv ((d.rows.length - 1 - k : Nat) : Int), iv (d.rows.getD (d.rows.length - 1 - k) 0 : Int), .bool false]] := by
 rw [List.take_succ_eq_append_getElem (by rw [List.length_map, backs_len]; exact h)]
 congr 2
 simp only [List.getElem_map, backsN, List.getElem_reverse, punchN, List.getElem_zipIdx, List.length_map, List.length_zipIdx, CardN.av, Nat.zero_add];rw [rows_get (by omega)]
theorem turned_main (kp : lim F 30 [] = some (.bool true, [])) (kc : lim F 17 [] = some (.bool true, [])) (v : Nat) (hv : v < 256) (l : List WordB) : lim F 5 [.int .u8 (v : Int), .list 1 (wordsV l)] = some (.bool true, []) := by
 have hd := pub_ok v l;have hrw := pub_rows v l;have hhk := pub_hk v l;have hD := pubDesign_ok v hv l;generalize pubN v l = d at *;have hm := mirN_ok hd;have hml := mirN_len d;have hfl : (flipN d).rows.length = d.rows.length := by simp [flipN, madeN]
 have c1 := pubCopyN_ok d (by omega)
 have c2 := pubCopyN_ok (mirrorN d) (by omega)
 have hM := Mirror_ok d hd;have hF := Flip_ok d hd;have p1 := Punch_ok d hd;have p2 := Punch_ok (mirrorN d) hm;rw [← turn_zero] at p1 p2;have hO := pubOne_ok d.rows.length (by omega)
 obtain ⟨z1, w1⟩ := Weave_turned d hd hhk.1 hhk.2;obtain ⟨z2, w2⟩ := Weave_turned (mirrorN d) hm hhk.1 hhk.2;rw [mirN_twice hd, hml] at w2;obtain ⟨z3, w3⟩ := Weave_backs d hd;have s1 := pubSame_self (mirrorN d).rows (by omega)
 have s2 := pubSame_self d.rows (by omega)
 have s3 := pubSame_self (flipN d).rows (by omega)
 have t1 := turn_set d;have t2 := turn_set (mirrorN d);rw [hml] at t2;have q1 : ∀ j : Nat, j < d.rows.length → ((turnN d j).cards.map CardN.av)[j]? = some (.agg [iv (j : Int), iv (d.rows.getD j 0 : Int), .bool false]) := fun j h => by
  rw [List.getElem?_map, turn_at d j j h]; simp [CardN.av]
 have q2 : ∀ j : Nat, j < d.rows.length → ((turnN (mirrorN d) j).cards.map CardN.av)[j]? = some (.agg [iv (j : Int), iv ((mirrorN d).rows.getD j 0 : Int), .bool false]) := fun j h => by
  rw [List.getElem?_map, turn_at (mirrorN d) j j (by omega)]; simp [CardN.av]
 have qd : ∀ j : Nat, j < d.rows.length → ((punchN d).cards.map CardN.av)[j]? = some (.agg [iv (j : Int), iv (d.rows.getD j 0 : Int), .bool false]) := fun j h => by
  rw [← turn_zero, List.getElem?_map, turn_at d 0 j h]; simp [CardN.av]
 have hb := backs_take d;have lb : ((backsN d).cards.map CardN.av).length = d.rows.length := by rw [List.length_map, backs_len]
 have ab : ((backsN d).cards.map CardN.av).take d.rows.length = (backsN d).cards.map CardN.av := List.take_of_length_le (by omega)
 have pb : ∀ k, (((backsN d).cards.map CardN.av).take k).all AV.plain = true := fun k => List.all_eq_true.2 fun x hx => List.all_eq_true.1 (card_plain (backsN d).cards) x (List.mem_of_mem_take hx)
 have lt1 : ∀ k, ((turnN d k).cards.map CardN.av).length = d.rows.length := fun k => by rw [List.length_map, turn_len]
 have lt2 : ∀ k, ((turnN (mirrorN d) k).cards.map CardN.av).length = d.rows.length := fun k => by rw [List.length_map, turn_len, hml]
 have pt1 : ∀ k, ((turnN d k).cards.map CardN.av).all AV.plain = true := fun k => card_plain _
 have pt2 : ∀ k, ((turnN (mirrorN d) k).cards.map CardN.av).all AV.plain = true := fun k => card_plain _
 have kt1 : ∀ k, ((turnN d k).cards.map CardN.av).take d.rows.length = (turnN d k).cards.map CardN.av := fun k => List.take_of_length_le (by rw [lt1]; omega)
 have kt2 : ∀ k, ((turnN (mirrorN d) k).cards.map CardN.av).take d.rows.length = (turnN (mirrorN d) k).cards.map CardN.av := fun k => List.take_of_length_le (by rw [lt2]; omega)
 have ld : (natsV d.rows).length = d.rows.length := by simp
 have lm : (natsV (mirrorN d).rows).length = d.rows.length := by simp [natsV, hml]
 have lf : (natsV (flipN d).rows).length = d.rows.length := by simp [natsV, hfl]
 have pd : (natsV d.rows).all AV.plain = true := nat_plain _;have pm : (natsV (mirrorN d).rows).all AV.plain = true := nat_plain _;have pf : (natsV (flipN d).rows).all AV.plain = true := nat_plain _;have td : (natsV d.rows).take d.rows.length = natsV d.rows := List.take_of_length_le (by omega)
 have tm : (natsV (mirrorN d).rows).take d.rows.length = natsV (mirrorN d).rows := List.take_of_length_le (by omega)
 have tf : (natsV (flipN d).rows).take d.rows.length = natsV (flipN d).rows := List.take_of_length_le (by omega)
 have po : (natsV (List.replicate d.rows.length 1)).all AV.plain = true := nat_plain _;have lo : (natsV (List.replicate d.rows.length 1)).length = d.rows.length := by simp [natsV]
 have to : (natsV (List.replicate d.rows.length 1)).take d.rows.length = natsV (List.replicate d.rows.length 1) := List.take_of_length_le (by omega)
 unfold DesN.av at p1 p2 hM hF;unfold DesN.out at hM hF;change lim F _ [.agg [_, .list 1 (natsV d.rows)]] = _ at p1;change lim F _ [.agg [_, .list 1 (natsV (mirrorN d).rows)]] = _ at p2;change lim F _ [.agg [_, .list 1 (natsV d.rows)]] = some (AV.tuple [.agg [_, .own 1 (natsV (mirrorN d).rows)], _], []) at hM;change lim F _ [.agg [_, .list 1 (natsV d.rows)]] = some (AV.tuple [.agg [_, .own 1 (natsV (flipN d).rows)], _], []) at hF;have e1 : (mirrorN d).hk = d.hk := rfl;have e2 : (flipN d).hk = d.hk := rfl;rw [e1] at c2 hM p2 w2;rw [e2] at hF;generalize natsV (List.replicate d.rows.length 1) = ov at *;generalize natsV (flipN d).rows = Fv at *;generalize hrm : (mirrorN d).rows = mr at *;generalize natsV mr = Mv at *;generalize natsV d.rows = Rv at *;generalize hn : d.rows.length = n at *;refine lim_by (fn := a5) (k := 2) (res := [.tmp 4]) rfl rfl rfl (by simp -implicitDefEqProofs (maxSteps := 2000000) (disch := first | exact tt_rfl rfl | omega | (simp only [go_sem] <;> omega) | fail) only [go_sem]) ?_
 try delta mvA
 try delta opA
 try delta tA
 simp -implicitDefEqProofs (maxSteps := 2000000) (disch := first | exact tt_rfl rfl | omega | (simp only [go_sem] <;> omega) | fail) only [go_sem]
 repeat (first | apply Wp.seqA | apply Wp.skipS | apply Wp.blockS | ((first | apply Wp.regS | apply Wp.condV | apply Wp.reg | apply Wp.condW | apply fin_ret); simp -implicitDefEqProofs (maxSteps := 2000000) (disch := first | exact tt_rfl rfl | omega | (simp only [go_sem] <;> omega) | fail) only [go_sem, hD, c1, hM, hF, ld, lm, lf, pd, pm, pf, td, tm, tf] <;> try with_reducible rfl) | apply Wp.block | apply Wp.exitS | apply Wp.retS | apply Wp.exit | apply Wp.ret | apply Wp.skip)
 apply Wp.loopF 2 (fun i => ⟨[(5, .ptr 320 0 0), (6, iv (n : Int)), (7, .ptr 448 0 0), (9, .ptr 576 0 0), (11, iv (i : Int))], [(320, .box [iv (d.hk : Int), .slice 305121 0 n]), (448, .box [iv (d.hk : Int), .slice 307169 0 n]), (576, .box [iv (d.hk : Int), .slice 309217 0 n]), (305121, .arr 1 Rv), (307169, .arr 1 Mv), (309217, .arr 1 Fv)], [], 10000000⟩) (fun _ => True)
 ·simp -implicitDefEqProofs (maxSteps := 2000000) (disch := first | exact tt_rfl rfl | omega | (simp only [go_sem] <;> omega) | fail) only [go_sem, norm_eq, Ok.some]
  rfl
 ·trivial
 intro k hk _
 match k, hk with
 | 0, _ =>
  have h0 : (((0 : Nat) : Int) = 1) = False := by simp
  repeat (first | apply Wp.seqA | apply Wp.skipS | apply Wp.blockS | ((first | apply Wp.regS | apply Wp.condV | apply Wp.reg | apply Wp.condW | apply fin_ret); simp -implicitDefEqProofs (maxSteps := 2000000) (disch := first | exact tt_rfl rfl | omega | (simp only [go_sem] <;> omega) | fail) only [go_sem, h0, c1, p1, ld, td, pd, lt1, kt1, pt1] <;> try with_reducible rfl) | apply Wp.block | apply Wp.exitS | apply Wp.retS | apply Wp.exit | apply Wp.ret | apply Wp.skip)
  apply Wp.loopF n (fun j => ⟨[(5, .ptr 320 0 0), (6, iv (n : Int)), (7, .ptr 448 0 0), (9, .ptr 576 0 0), (11, iv ((0 : Nat) : Int)), (13, .ptr 832 0 0), (14, .ptr 896 0 0), (16, iv (j : Int))], [(320, .box [iv (d.hk : Int), .slice 305121 0 n]), (448, .box [iv (d.hk : Int), .slice 307169 0 n]), (576, .box [iv (d.hk : Int), .slice 309217 0 n]), (832, .box [iv (d.hk : Int), .slice 307169 0 n]), (896, .box [iv (d.hk : Int), .slice 314337 0 n]), (305121, .arr 1 Rv), (307169, .arr 1 Mv), (309217, .arr 1 Fv), (314337, .arr 3 ((turnN d j).cards.map CardN.av))], [], 10000000⟩) (fun _ => True)
  ·simp -implicitDefEqProofs (maxSteps := 2000000) (disch := first | exact tt_rfl rfl | omega | (simp only [go_sem] <;> omega) | fail) only [go_sem, norm_eq, Ok.some]
   rfl
  ·trivial
  intro j hj _;by_cases h2 : j < n
  ·have g1 := q1 j h2
   have g2 := t1 j h2;have g3 := lt1 j;rw [← g2];generalize (turnN d j).cards.map CardN.av = es at *;repeat (first | apply Wp.seqA | apply Wp.skipS | apply Wp.blockS | ((first | apply Wp.regS | apply Wp.condV | apply Wp.reg | apply Wp.condW | apply fin_ret); simp -implicitDefEqProofs (maxSteps := 2000000) (disch := first | exact tt_rfl rfl | omega | (simp only [go_sem] <;> omega) | fail) only [go_sem, h2, Int.ofNat_lt, g1, g3, Int.toNat_natCast] <;> try with_reducible rfl) | apply Wp.block | apply Wp.exitS | apply Wp.retS | apply Wp.exit | apply Wp.ret | apply Wp.skip)
   apply round_next
   ·simp -implicitDefEqProofs (maxSteps := 2000000) (disch := first | exact tt_rfl rfl | omega | (simp only [go_sem] <;> omega) | fail) only [go_sem, norm_eq, Ok.some]; with_reducible rfl
   exact ⟨h2, by simp, trivial⟩
  ·obtain rfl : j = n := by omega
   have g3 := lt1 j;have g4 := kt1 j;have g5 := pt1 j;generalize (turnN d j).cards.map CardN.av = es at *;repeat (first | apply Wp.seqA | apply Wp.skipS | apply Wp.blockS | ((first | apply Wp.regS | apply Wp.condV | apply Wp.reg | apply Wp.condW | apply fin_ret); simp -implicitDefEqProofs (maxSteps := 2000000) (disch := first | exact tt_rfl rfl | omega | (simp only [go_sem] <;> omega) | fail) only [go_sem, h2, Int.ofNat_lt, g3, g4, g5, hO, lo, to, po, w1, s1, lm, tm, pm, ld, td, pd] <;> try with_reducible rfl) | apply Wp.block | apply Wp.exitS | apply Wp.retS | apply Wp.exit | apply Wp.ret | apply Wp.skip)
   apply round_next
   ·simp -implicitDefEqProofs (maxSteps := 2000000) (disch := first | exact tt_rfl rfl | omega | (simp only [go_sem] <;> omega) | fail) only [go_sem, norm_eq, Ok.some]; with_reducible rfl
   exact ⟨by omega, by simp, trivial⟩
 | 1, _ =>
  have h0 : (((1 : Nat) : Int) = 1) = True := by simp
  repeat (first | apply Wp.seqA | apply Wp.skipS | apply Wp.blockS | ((first | apply Wp.regS | apply Wp.condV | apply Wp.reg | apply Wp.condW | apply fin_ret); simp -implicitDefEqProofs (maxSteps := 2000000) (disch := first | exact tt_rfl rfl | omega | (simp only [go_sem] <;> omega) | fail) only [go_sem, h0, c2, p2, lm, tm, pm, lt2, kt2, pt2, show ((1 : Nat) : Int) < 2 by omega] <;> try with_reducible rfl) | apply Wp.block | apply Wp.exitS | apply Wp.retS | apply Wp.exit | apply Wp.ret | apply Wp.skip)
  apply Wp.loopF n (fun j => ⟨[(5, .ptr 320 0 0), (6, iv (n : Int)), (7, .ptr 448 0 0), (9, .ptr 576 0 0), (11, iv ((1 : Nat) : Int)), (13, .ptr 832 0 0), (14, .ptr 896 0 0), (16, iv (j : Int))], [(320, .box [iv (d.hk : Int), .slice 305121 0 n]), (448, .box [iv (d.hk : Int), .slice 307169 0 n]), (576, .box [iv (d.hk : Int), .slice 309217 0 n]), (832, .box [iv (d.hk : Int), .slice 305121 0 n]), (896, .box [iv (d.hk : Int), .slice 314337 0 n]), (305121, .arr 1 Rv), (307169, .arr 1 Mv), (309217, .arr 1 Fv), (314337, .arr 3 ((turnN (mirrorN d) j).cards.map CardN.av))], [], 10000000⟩) (fun _ => True)
  ·simp -implicitDefEqProofs (maxSteps := 2000000) (disch := first | exact tt_rfl rfl | omega | (simp only [go_sem] <;> omega) | fail) only [go_sem, norm_eq, Ok.some]
   rfl
  ·trivial
  intro j hj _;by_cases h2 : j < n
  ·have g1 := q2 j h2
   have g2 := t2 j h2;have g3 := lt2 j;rw [← g2];generalize (turnN (mirrorN d) j).cards.map CardN.av = es at *;repeat (first | apply Wp.seqA | apply Wp.skipS | apply Wp.blockS | ((first | apply Wp.regS | apply Wp.condV | apply Wp.reg | apply Wp.condW | apply fin_ret); simp -implicitDefEqProofs (maxSteps := 2000000) (disch := first | exact tt_rfl rfl | omega | (simp only [go_sem] <;> omega) | fail) only [go_sem, h2, Int.ofNat_lt, g1, g3, Int.toNat_natCast] <;> try with_reducible rfl) | apply Wp.block | apply Wp.exitS | apply Wp.retS | apply Wp.exit | apply Wp.ret | apply Wp.skip)
   apply round_next
   ·simp -implicitDefEqProofs (maxSteps := 2000000) (disch := first | exact tt_rfl rfl | omega | (simp only [go_sem] <;> omega) | fail) only [go_sem, norm_eq, Ok.some]; with_reducible rfl
   exact ⟨h2, by simp, trivial⟩
  ·obtain rfl : j = n := by omega
   have g3 := lt2 j;have g4 := kt2 j;have g5 := pt2 j;generalize (turnN (mirrorN d) j).cards.map CardN.av = es at *;repeat (first | apply Wp.seqA | apply Wp.skipS | apply Wp.blockS | ((first | apply Wp.regS | apply Wp.condV | apply Wp.reg | apply Wp.condW | apply fin_ret); simp -implicitDefEqProofs (maxSteps := 2000000) (disch := first | exact tt_rfl rfl | omega | (simp only [go_sem] <;> omega) | fail) only [go_sem, h2, Int.ofNat_lt, g3, g4, g5, hO, lo, to, po, w2, s2, lm, tm, pm, ld, td, pd] <;> try with_reducible rfl) | apply Wp.block | apply Wp.exitS | apply Wp.retS | apply Wp.exit | apply Wp.ret | apply Wp.skip)
   apply round_next
   ·simp -implicitDefEqProofs (maxSteps := 2000000) (disch := first | exact tt_rfl rfl | omega | (simp only [go_sem] <;> omega) | fail) only [go_sem, norm_eq, Ok.some]; with_reducible rfl
   exact ⟨by omega, by simp, trivial⟩
 | 2, _ =>
  repeat (first | apply Wp.seqA | apply Wp.skipS | apply Wp.blockS | ((first | apply Wp.regS | apply Wp.condV | apply Wp.reg | apply Wp.condW | apply fin_ret); simp -implicitDefEqProofs (maxSteps := 2000000) (disch := first | exact tt_rfl rfl | omega | (simp only [go_sem] <;> omega) | fail) only [go_sem, c1, p1, ld, td, pd, lt1, kt1, pt1, show ¬ ((2 : Nat) : Int) < 2 by omega] <;> try with_reducible rfl) | apply Wp.block | apply Wp.exitS | apply Wp.retS | apply Wp.exit | apply Wp.ret | apply Wp.skip)
  have qp : ∀ j : Nat, j < n → ((turnN d 0).cards.map CardN.av)[j]? = some (.agg [iv (j : Int), iv (d.rows.getD j 0 : Int), .bool false]) := fun j h => by
   rw [turn_zero]; exact qd j h
  have lp := lt1 0;have nb : ∀ i, i ≤ n → (((backsN d).cards.map CardN.av).take i).length = i := fun i h => by rw [List.length_take, lb]; omega
  clear q1 q2 qd t1 t2 lt1 lt2 pt1 pt2 kt1 kt2;generalize (turnN d 0).cards.map CardN.av = es at *;rw [← ab] at w3;generalize (backsN d).cards.map CardN.av = bs at *;apply Wp.loopF n (fun i => ⟨[(6, iv (n : Int)), (9, .ptr 576 0 0), (20, .ptr 1280 0 0), (22, .ptr 1408 0 0), (23, iv ((n : Int) - 1 - i))], [(576, .box [iv (d.hk : Int), .slice 309217 0 n]), (1280, .box [iv (d.hk : Int), .slice 320481 0 n]), (1408, .box [iv (d.hk : Int), .slice 322529 0 i]), (309217, .arr 1 Fv), (320481, .arr 3 es), (322529, .arr 3 (bs.take i))], [], 10000000⟩) (fun _ => True)
  ·simp -implicitDefEqProofs (maxSteps := 2000000) (disch := first | exact tt_rfl rfl | omega | (simp only [go_sem] <;> omega) | fail) only [go_sem, norm_eq, Ok.some]
   simp
  ·trivial
  intro i hi _;have n1 := nb i hi;have P1 := pb i;have T1 : (bs.take i).take i = bs.take i := List.take_of_length_le (by omega)
  by_cases h2 : i < n
  ·have g1 := qp (n - 1 - i) (by omega)
   have g2 := hb i h2;have g3 : ((n : Int) - 1 - i).toNat = n - 1 - i := by omega
   have g4 : ((n - 1 - i : Nat) : Int) = (n : Int) - 1 - i := by omega
   rw [g2];clear hb nb pb qp;generalize bs.take i = L at *;rw [g4] at g1 ⊢;repeat (first | apply Wp.seqA | apply Wp.skipS | apply Wp.blockS | ((first | apply Wp.regS | apply Wp.condV | apply Wp.reg | apply Wp.condW | apply fin_ret); simp -implicitDefEqProofs (maxSteps := 2000000) (disch := first | exact tt_rfl rfl | omega | (simp only [go_sem] <;> omega) | fail) only [go_sem, g1, g3, lp, n1, T1, show (0 : Int) ≤ (n : Int) - 1 - i by omega, show (n : Int) - 1 - i < n by omega] <;> try with_reducible rfl) | apply Wp.block | apply Wp.exitS | apply Wp.retS | apply Wp.exit | apply Wp.ret | apply Wp.skip)
   apply round_next
   ·simp -implicitDefEqProofs (maxSteps := 2000000) (disch := first | exact tt_rfl rfl | omega | (simp only [go_sem] <;> omega) | fail) only [go_sem, norm_eq, Ok.some]; with_reducible rfl
   refine ⟨h2, ?_, trivial⟩;simp;omega
  ·obtain rfl : i = n := by omega
   clear hb nb pb qp;generalize bs.take i = L at *;repeat (first | apply Wp.seqA | apply Wp.skipS | apply Wp.blockS | ((first | apply Wp.regS | apply Wp.condV | apply Wp.reg | apply Wp.condW | apply fin_ret); simp -implicitDefEqProofs (maxSteps := 2000000) (disch := first | exact tt_rfl rfl | omega | (simp only [go_sem] <;> omega) | fail) only [go_sem, show ¬ (0 : Int) ≤ (i : Int) - 1 - i by omega, n1, P1, T1, hO, lo, to, po, w3, s3, lf, tf, pf, kp, kc] <;> try with_reducible rfl) | apply Wp.block | apply Wp.exitS | apply Wp.retS | apply Wp.exit | apply Wp.ret | apply Wp.skip)
end Go.Abs
