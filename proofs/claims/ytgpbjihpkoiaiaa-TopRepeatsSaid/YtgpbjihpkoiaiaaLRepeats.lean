/-
 TopRepeats: whole repeats of a design. No condition beyond those that each theorem names.
-/
import Derived.Test.YtgpbjihpkoiaiaaRP
import Derived.Test.YtgpbjihpkoiaiaaYP
import Derived.Test.YtgpbjihpkoiaiaaTRp
import Derived.Test.YtgpbjihpkoiaiaaWU
import Derived.Test.YtgpbjihpkoiaiaaU1
set_option linter.all false
namespace Go.Abs
set_option maxRecDepth 10000
set_option maxHeartbeats 8000000
open Go.Abs.Beam (TakeA PairT checkT longT picksOf numT denT nT dT figE picksE SpanOk)
theorem pubT_many (a b c e : Nat) (ha : a < 256) {L : Int} (h0 : 0 ≤ L) (h1 : L ≤ 1800000) : 0 ≤ picksOf (pubT a b c e) L ∧ picksOf (pubT a b c e) L ≤ 20000 := by
 refine many_law (pubT_ok a b c e ha) h0 h1 ?_ ?_
 ·have e1 : numT (pubT a b c e) = (100000 + 1000 * (a : Int)) * (1 + (b % 5 : Nat)) * (10 + (c % 91 : Nat)) := by simp [numT, Beam.numP, pubT]
  rw [e1];have g1 : (100000 : Int) * 1 ≤ (100000 + 1000 * (a : Int)) * (1 + (b % 5 : Nat)) := Int.mul_le_mul (by omega) (by omega) (by omega) (by omega)
  have g2 : (100000 * 1 : Int) * 10 ≤ (100000 + 1000 * (a : Int)) * (1 + (b % 5 : Nat)) * (10 + (c % 91 : Nat)) := Int.mul_le_mul g1 (by omega) (by omega) (by omega)
  omega
 ·have e1 : denT (pubT a b c e) = (20 + (a % 81 : Nat)) * (10 + (e % 91 : Nat)) := by simp [denT, Beam.denP, pubT]
  rw [e1];have g1 : (20 + ((a % 81 : Nat) : Int)) * (10 + ((e % 91 : Nat) : Int)) ≤ 100 * 100 := Int.mul_le_mul (by omega) (by omega) (by omega) (by omega)
  omega
theorem repeats_main (kp : lim F 37 [] = some (.bool true, [])) (kt : lim F 38 [] = some (.bool true, [])) (kb : lim F 39 [] = some (.bool true, [])) (l : List WordB) (a b c e s : Nat) (ha : a < 256) (hb : b < 256) (hc : c < 256) (he : e < 256) (hs : s < 256) :
  lim F 4 [.list 1 (wordsV l), .agg [.int .u8 (a : Int), .int .u8 (b : Int), .int .u8 (c : Int), .int .u8 (e : Int)], .int .u8 (s : Int)] = some (.bool true, []) := by
 have hd := pub_ok c l;have hrw := pub_rows c l;have hhk := pub_hk c l;have hD := pubDesign_ok c hc l;have hT := pubTake_ok a b c e ha hb hc he;have hck := pubT_ok a b c e ha;have hG := pubGear_ok (pubT a b c e) (by simp [pubT])
 generalize pubN c l = d at *;have hCo := pubCopy_ok d (by omega)
 have hL := Least_ok d hd;obtain ⟨⟨a1, a2, a3⟩, -, -⟩ := least_facts hd;have hper := fun p hp => row_periodP hd p hp
 have e4 : Int.tmod (s : Int) 4 = ((s % 4 : Nat) : Int) := by rw [Int.tmod_eq_emod_of_nonneg (Int.natCast_nonneg _)]; rfl
 have e7 : Int.tmod (s : Int) 7 = ((s % 7 : Nat) : Int) := by rw [Int.tmod_eq_emod_of_nonneg (Int.natCast_nonneg _)]; rfl
 have m4 := Nat.mod_lt s (show 0 < 4 by omega)
 have m7 := Nat.mod_lt s (show 0 < 7 by omega)
 generalize s % 4 = q4 at *;generalize s % 7 = q7 at *;obtain ⟨t, ht⟩ : ∃ t, t = 1 + q4 := ⟨_, rfl⟩;have hti : (1 : Int) + (q4 : Int) = (t : Int) := by omega
 have hMk := Make_many d.hk t hhk.1 hhk.2 (by omega) (by omega)
 have hRp := Repeat_many d.hk t hhk.1 hhk.2 (by omega) (by omega)
 have hth : t * d.hk ≤ 32 := Nat.mul_le_mul (show t ≤ 4 by omega) hhk.2
 have hH := straight_ok (t := t) hd.h1 hd.h24 (by omega) (by omega)
 have hW := tWeave_ok _ hH d hd rfl;have hI := pubInts_ok (natsV (strW d.hk t)) (nat_plain _) (by simp [strW_len]; omega)
 have lw : (strW d.hk t).length = t * d.hk := strW_len _ _;have hpk : ∀ r w, w < t * d.hk → (pickB r (strW d.hk t)).getD w 0 = (pickB r (strW d.hk t)).getD (w % d.hk) 0 := fun r w hw => by
  have h1 := strW_at d.hk t w hw;have h2 := strW_at d.hk t (w % d.hk) (Nat.lt_of_le_of_lt (Nat.mod_le _ _) hw);unfold pickB;rw [List.getD_eq_getElem?_getD, List.getElem?_map, h1, List.getD_eq_getElem?_getD, List.getElem?_map, h2, Nat.mod_mod]
 have hpl : ∀ r, (pickB r (strW d.hk t)).length = t * d.hk := fun r => by simp [lw]
 have hg : ∀ p, p < d.rows.length → (clothV d.rows (strW d.hk t))[p]? = some (strA (pickB (d.rows.getD p 0) (strW d.hk t))) := fun p hp => cloth_at hp
 have hbad := cloth_bad (ws := strW d.hk t) hrw.1;have c1 : (clothV d.rows (strW d.hk t)).length = d.rows.length := by simp
 have u1 : (clothV d.rows (strW d.hk t)).take d.rows.length = clothV d.rows (strW d.hk t) := List.take_of_length_le (by omega)
 have ld : (natsV d.rows).length = d.rows.length := by simp
 have lH : (natsV (strW d.hk t)).length = t * d.hk := by simp [lw]
 have pd : (natsV d.rows).all AV.plain = true := nat_plain _;have pH : (natsV (strW d.hk t)).all AV.plain = true := nat_plain _;have td : (natsV d.rows).take d.rows.length = natsV d.rows := List.take_of_length_le (by omega)
 have tH : (natsV (strW d.hk t)).take (t * d.hk) = natsV (strW d.hk t) := List.take_of_length_le (by omega)
 have hmul : (t : Int) * (d.hk : Int) = ((t * d.hk : Nat) : Int) := by simp
 have en : Int.tmod (d.rows.length : Int) (leastP d : Int) = 0 := by
  rw [Int.tmod_eq_emod_of_nonneg (by omega), ← Int.natCast_emod, a3]; rfl
 unfold HarN.av DesN.av at *;dsimp only at hW;change lim F _ [.agg [_, .list 1 (natsV d.rows)]] = _ at hL;change lim F _ [_, .agg [_, .list 1 (natsV d.rows)]] = _ at hW;generalize clothV d.rows (strW d.hk t) = C at *;generalize natsV (strW d.hk t) = Hv at *;generalize natsV d.rows = Rv at *;generalize leastP d = r at *;generalize hn : d.rows.length = n at *;generalize hH' : d.hk = H at *;generalize hM : t * H = M at *;generalize hP : pubT a b c e = tk at *;unfold TakeA.av at *;have hb1 : (tk.pairs.map PairT.av).length ≤ 2 := by rw [← hP]; simp [pubT]
 refine lim_by (fn := a4) (k := 3) (res := [.tmp 6]) rfl rfl rfl (by simp -implicitDefEqProofs (maxSteps := 2000000) (disch := first | exact tt_rfl rfl | omega | (simp only [go_sem] <;> omega) | fail) only [go_sem]) ?_
 try delta mvA
 try delta opA
 try delta tA
 simp -implicitDefEqProofs (maxSteps := 2000000) (disch := first | exact tt_rfl rfl | omega | (simp only [go_sem] <;> omega) | fail) only [go_sem]
 repeat (first | apply Wp.seqA | apply Wp.skipS | apply Wp.blockS | ((first | apply Wp.regS | apply Wp.condV | apply Wp.reg | apply Wp.condW | apply fin_ret); simp -implicitDefEqProofs (maxSteps := 2000000) (disch := first | exact tt_rfl rfl | omega | (simp only [go_sem] <;> omega) | fail) only [go_sem, hD, hT, hCo, hL, ld, pd, td, e4, hti, hMk, lH, pH, tH, hI, hRp, hW, c1, u1, hbad, en, show ¬ (r : Int) < 1 by omega, show ¬ (r : Int) = 0 by omega] <;> try with_reducible rfl) | apply Wp.block | apply Wp.exitS | apply Wp.retS | apply Wp.exit | apply Wp.ret | apply Wp.skip)
 apply Wp.loopF n (fun p => ⟨[(2, .int .u8 (s : Int)), (4, .ptr 256 0 0), (7, .ptr 448 0 0), (8, .ptr 512 0 0), (9, iv (r : Int)), (12, iv (n : Int)), (13, iv (t : Int)), (19, .slice 1216 0 n), (21, iv (p : Int))], [(256, .box [.int .u8 (a : Int), .int .u8 (b : Int), .int .u8 (c : Int), .int .u8 (e : Int)]), (448, .box [iv (H : Int), .slice 307169 0 n]), (512, .box [iv tk.rat, iv tk.step, .slice 308194 0 tk.pairs.length, iv tk.round]), (1216, .arr 1 C), (307169, .arr 1 Rv), (308194, .arr 2 (tk.pairs.map PairT.av))], [], 10000000⟩) (fun _ => True)
 ·simp -implicitDefEqProofs (maxSteps := 2000000) (disch := first | exact tt_rfl rfl | omega | (simp only [go_sem] <;> omega) | fail) only [go_sem, norm_eq, Ok.some]
  rfl
 ·trivial
 intro p hp _;by_cases h3 : p < n
 ·have f1 := hg p h3
  have hlt : p % r < n := Nat.lt_of_lt_of_le (Nat.mod_lt _ (by omega)) a2
  have f2 := hg (p % r) hlt;rw [← hper p h3] at f2;have s1 := hpk (d.rows.getD p 0);have l1 := hpl (d.rows.getD p 0);have ep : Int.tmod (p : Int) (r : Int) = ((p % r : Nat) : Int) := by rw [Int.tmod_eq_emod_of_nonneg (by omega)]; rfl
  clear hg hpk hpl hper;generalize pickB (d.rows.getD p 0) (strW H t) = sb at *;generalize p % r = pr at *;repeat (first | apply Wp.seqA | apply Wp.skipS | apply Wp.blockS | ((first | apply Wp.regS | apply Wp.condV | apply Wp.reg | apply Wp.condW | apply fin_ret); simp -implicitDefEqProofs (maxSteps := 2000000) (disch := first | exact tt_rfl rfl | omega | (simp only [go_sem] <;> omega) | fail) only [go_sem, h3, hlt, Int.ofNat_lt, f1, f2, c1, l1, ep, hmul, Int.toNat_natCast, beq_self_eq_true, show ¬ (r : Int) = 0 by omega] <;> try with_reducible rfl) | apply Wp.block | apply Wp.exitS | apply Wp.retS | apply Wp.exit | apply Wp.ret | apply Wp.skip)
  apply Wp.loopF M (fun w => ⟨[(2, .int .u8 (s : Int)), (4, .ptr 256 0 0), (7, .ptr 448 0 0), (8, .ptr 512 0 0), (9, iv (r : Int)), (12, iv (n : Int)), (13, iv (t : Int)), (19, .slice 1216 0 n), (21, iv (p : Int)), (22, iv (w : Int))], [(256, .box [.int .u8 (a : Int), .int .u8 (b : Int), .int .u8 (c : Int), .int .u8 (e : Int)]), (448, .box [iv (H : Int), .slice 307169 0 n]), (512, .box [iv tk.rat, iv tk.step, .slice 308194 0 tk.pairs.length, iv tk.round]), (1216, .arr 1 C), (307169, .arr 1 Rv), (308194, .arr 2 (tk.pairs.map PairT.av))], [], 10000000⟩) (fun _ => True)
  ·simp -implicitDefEqProofs (maxSteps := 2000000) (disch := first | exact tt_rfl rfl | omega | (simp only [go_sem] <;> omega) | fail) only [go_sem, norm_eq, Ok.some]
   rfl
  ·trivial
  intro w hw _;by_cases h4 : w < M
  ·have g1 := s1 w h4
   have g2 := Nat.mod_lt w (show 0 < H by omega)
   have g3 : w % H < M := Nat.lt_of_le_of_lt (Nat.mod_le _ _) h4;have ew : Int.tmod (w : Int) (H : Int) = ((w % H : Nat) : Int) := by rw [Int.tmod_eq_emod_of_nonneg (by omega)]; rfl
   clear s1;generalize w % H = wh at *;repeat (first | apply Wp.seqA | apply Wp.skipS | apply Wp.blockS | ((first | apply Wp.regS | apply Wp.condV | apply Wp.reg | apply Wp.condW | apply fin_ret); simp -implicitDefEqProofs (maxSteps := 2000000) (disch := first | exact tt_rfl rfl | omega | (simp only [go_sem] <;> omega) | fail) only [go_sem, h3, h4, g3, Int.ofNat_lt, f1, c1, l1, ew, g1, Int.toNat_natCast, bne_self_eq_false, show ¬ (H : Int) = 0 by omega] <;> try with_reducible rfl) | apply Wp.block | apply Wp.exitS | apply Wp.retS | apply Wp.exit | apply Wp.ret | apply Wp.skip)
   apply round_next
   ·simp -implicitDefEqProofs (maxSteps := 2000000) (disch := first | exact tt_rfl rfl | omega | (simp only [go_sem] <;> omega) | fail) only [go_sem, norm_eq, Ok.some]; with_reducible rfl
   exact ⟨h4, by simp, trivial⟩
  ·obtain rfl : w = M := by omega
   repeat (first | apply Wp.seqA | apply Wp.skipS | apply Wp.blockS | ((first | apply Wp.regS | apply Wp.condV | apply Wp.reg | apply Wp.condW | apply fin_ret); simp -implicitDefEqProofs (maxSteps := 2000000) (disch := first | exact tt_rfl rfl | omega | (simp only [go_sem] <;> omega) | fail) only [go_sem, h3, h4, Int.ofNat_lt, f1, c1, l1, Int.toNat_natCast] <;> try with_reducible rfl) | apply Wp.block | apply Wp.exitS | apply Wp.retS | apply Wp.exit | apply Wp.ret | apply Wp.skip)
   apply round_next
   ·simp -implicitDefEqProofs (maxSteps := 2000000) (disch := first | exact tt_rfl rfl | omega | (simp only [go_sem] <;> omega) | fail) only [go_sem, norm_eq, Ok.some]; with_reducible rfl
   exact ⟨h3, by simp, trivial⟩
 ·obtain rfl : p = n := by omega
  clear hg hpk hpl hper hW hI hRp hMk hD hT hCo hL;have hLb : (0 : Int) ≤ 1000 * (1 + (e : Int)) * (1 + (q7 : Int)) ∧ 1000 * (1 + (e : Int)) * (1 + (q7 : Int)) ≤ 1800000 := by
   have g1 : 1000 * (1 + (e : Int)) * (1 + (q7 : Int)) ≤ 256000 * 7 := Int.mul_le_mul (by omega) (by omega) (by omega) (by omega)
   have g2 : (0 : Int) ≤ 1000 * (1 + (e : Int)) * (1 + (q7 : Int)) := Int.mul_nonneg (by omega) (by omega)
   omega
  have hPk := Beam.Picks_ok tk (1000 * (1 + (e : Int)) * (1 + (q7 : Int)));have hpe : picksE tk (1000 * (1 + (e : Int)) * (1 + (q7 : Int))) = 0 := by
   unfold picksE;rw [if_pos hck, if_pos (by omega)]
  rw [hpe] at hPk;simp only [if_true] at hPk;have hm := pubT_many a b c e ha hLb.1 hLb.2;rw [hP] at hm;obtain ⟨k, hk⟩ : ∃ k, k = picksOf tk (1000 * (1 + (e : Int)) * (1 + (q7 : Int))) / (r : Int) := ⟨_, rfl⟩;have hrl := rep_law hck (show (1 : Int) ≤ (r : Int) by omega) hk
  have ek : Int.tdiv (picksOf tk (1000 * (1 + (e : Int)) * (1 + (q7 : Int)))) (r : Int) = k := by rw [Int.tdiv_eq_ediv_of_nonneg hm.1]; exact hk.symm
  have k0 : 0 ≤ k := by rw [hk]; exact Int.ediv_nonneg hm.1 (by omega)
  have k1 : k * (r : Int) ≤ picksOf tk (1000 * (1 + (e : Int)) * (1 + (q7 : Int))) := by rw [hk]; exact Int.ediv_mul_le _ (by omega)
  have k2 : 0 ≤ k * (r : Int) := Int.mul_nonneg k0 (by omega)
  have k3 : (k + 1) * (r : Int) = k * (r : Int) + r := by rw [Int.add_mul, Int.one_mul]
  have hF2 := Beam.Figure_ok tk 0 0 ((k + 1) * (r : Int));have hf2 : figE tk 0 0 ((k + 1) * (r : Int)) = 0 := by
   unfold figE;rw [if_pos hck, if_pos (by unfold SpanOk; omega), if_pos (by omega)]
  rw [hf2] at hF2;simp only [if_true] at hF2;have k5 := Int.le_trans hm.1 hm.2;generalize hLd : 1000 * (1 + (e : Int)) * (1 + (q7 : Int)) = LL at *;have lP : (tk.pairs.map PairT.av).length = tk.pairs.length := by simp
  have tP : (tk.pairs.map PairT.av).take tk.pairs.length = tk.pairs.map PairT.av := List.take_of_length_le (by simp)
  have pP : (tk.pairs.map PairT.av).all AV.plain = true := by
   rw [List.all_eq_true];intro x hx;obtain ⟨y, -, rfl⟩ := List.mem_map.1 hx;rfl
  have h1e : 1 + (e : Int) ≤ 256 := by omega
  generalize picksOf tk LL = PK at *;unfold TakeA.av at hPk hF2;generalize longT tk ((k + 1) * (r : Int)) 0 = x2 at *;have hk20 : k ≤ 20000 := by
   have := Int.mul_le_mul_of_nonneg_left (show (1 : Int) ≤ (r : Int) by omega) k0
   omega
  generalize hX2 : (k + 1) * (r : Int) = X2 at *;have hq2 := hrl.2;by_cases h5 : 0 < k
  ·have hr1 : (r : Int) ≤ k * (r : Int) := by
    have := Int.mul_le_mul_of_nonneg_right (show 1 ≤ k by omega) (show (0 : Int) ≤ (r : Int) by omega)
    omega
   have hF1 := Beam.Figure_ok tk 0 0 (k * (r : Int));have hf1 : figE tk 0 0 (k * (r : Int)) = 0 := by
    unfold figE;rw [if_pos hck, if_pos (by unfold SpanOk; omega), if_pos (by omega)]
   rw [hf1] at hF1;simp only [if_true] at hF1;have hq1 := hrl.1;generalize longT tk (k * (r : Int)) 0 = x1 at *;generalize hX1 : k * (r : Int) = X1 at *;unfold TakeA.av at hF1;generalize tk.pairs.map PairT.av = PV at *;repeat (first | apply Wp.seqA | apply Wp.skipS | apply Wp.blockS | ((first | apply Wp.regS | apply Wp.condV | apply Wp.reg | apply Wp.condW | apply fin_ret); simp -implicitDefEqProofs (maxSteps := 2000000) (disch := first | exact tt_rfl rfl | omega | (simp only [go_sem] <;> omega) | fail) only [go_sem, h3, Int.ofNat_lt, hG, hLd, e7, hPk, hF1, hF2, ek, h5, hX1, hX2, lP, tP, pP, kp, kt, kb, show ¬ PK < 0 by omega, show ¬ (100000 : Int) < PK by omega, show ¬ LL < x1 by omega, hq2] <;> try with_reducible rfl) | apply Wp.block | apply Wp.exitS | apply Wp.retS | apply Wp.exit | apply Wp.ret | apply Wp.skip)
  ·generalize tk.pairs.map PairT.av = PV at *
   repeat (first | apply Wp.seqA | apply Wp.skipS | apply Wp.blockS | ((first | apply Wp.regS | apply Wp.condV | apply Wp.reg | apply Wp.condW | apply fin_ret); simp -implicitDefEqProofs (maxSteps := 2000000) (disch := first | exact tt_rfl rfl | omega | (simp only [go_sem] <;> omega) | fail) only [go_sem, h3, Int.ofNat_lt, hG, hLd, e7, hPk, hF2, ek, h5, hX2, lP, tP, pP, kp, kt, kb, show ¬ PK < 0 by omega, show ¬ (100000 : Int) < PK by omega, hq2] <;> try with_reducible rfl) | apply Wp.block | apply Wp.exitS | apply Wp.retS | apply Wp.exit | apply Wp.ret | apply Wp.skip)
end Go.Abs
