/-
 TopWoven: as many picks as a length has are woven by a chain. No condition beyond those that each theorem names.
-/
import Derived.Test.YtlikmkicmpppdaaWN
set_option linter.all false
namespace Go.Abs
set_option maxRecDepth 10000
set_option maxHeartbeats 8000000
open Go.Abs.Beam (TakeA PairT checkT nT dT gT numT denT picksOf picksE)
theorem woven_main (kc : lim F 17 [] = some (.bool true, [])) (kb : lim F 18 [] = some (.bool true, [])) (l : List WordB) (a b c e : Nat) (ha : a < 256) (hb : b < 256) (hc : c < 256) (he : e < 256) (w : Nat) (hw : w < 65536) : lim F 3 [.list 1 (wordsV l), .agg [.int .u8 (a : Int), .int .u8 (b : Int), .int .u8 (c : Int), .int .u8 (e : Int)], .int .u16 (w : Int)] = some (.bool true, []) := by
 have hd := pub_ok b l;have hrw := pub_rows b l;have hD := pubDesign_ok b hb l;have hT := pubTake_ok a b c e ha hb hc he;have hck := pubT_ok a b c e ha;generalize pubN b l = d at *;have hCo := pubCopy_ok d (by omega)
 have hP := Punch_ok d hd;have hbe := punch_ok d hd;have hflat := punch_flat d;have hrow := punch_row d;have hbl := punch_len d;have hGe := pubGear_ok (pubT a b c e) (by simp [pubT])
 have q1 := Nat.mod_lt a (show 0 < 81 by omega)
 have q2 := Nat.mod_lt b (show 0 < 5 by omega)
 have q3 := Nat.mod_lt c (show 0 < 91 by omega)
 have q4 := Nat.mod_lt e (show 0 < 91 by omega)
 obtain ⟨t, ht⟩ : ∃ t, t = pubT a b c e := ⟨_, rfl⟩;have er : t.rat = 20 + (a % 81 : Nat) := by rw [ht]; rfl
 have es : t.step = 1 + (b % 5 : Nat) := by rw [ht]; rfl
 have eo : t.round = 100000 + 1000 * (a : Int) := by rw [ht]; rfl
 obtain ⟨dr, hdr⟩ : ∃ dr : Int, dr = 10 + (c % 91 : Nat) := ⟨_, rfl⟩;obtain ⟨dn, hdn⟩ : ∃ dn : Int, dn = 10 + (e % 91 : Nat) := ⟨_, rfl⟩;have ep : t.pairs = [⟨dr, dn⟩] := by rw [ht, hdr, hdn]; rfl
 have eN : numT t = t.round * t.step * dr := by simp [numT, ep, Beam.numP]
 have eD : denT t = t.rat * dn := by simp [denT, ep, Beam.denP]
 rw [← ht] at hT hck hGe;have hPk := Beam.Picks_ok t;have hlaw := picks_law hck;have hm1 := mul_inW (a := t.round) (b := t.step) (A := 355000) (B := 5) (by omega) (by omega) (by omega) (by omega)
 have hm2 := mul_inW (a := t.round * t.step) (b := dr) (A := 1775000) (B := 100) (by omega) (by omega) (by omega) (by omega)
 have hm3 := mul_inW (a := t.rat) (b := dn) (A := 100) (B := 100) (by omega) (by omega) (by omega) (by omega)
 have hm4 : 20 * 10 ≤ t.rat * dn := Int.mul_le_mul (by omega) (by omega) (by omega) (by omega)
 have nb := Beam.numT_bound hck;have hPa := pubParts_ok t.rat t.step dr dn t.round (by omega) (by omega) (by omega)
 rw [← eN, ← eD] at hPa;rw [← eN] at hm2;rw [← eD] at hm3 hm4;obtain ⟨K, hK⟩ : ∃ K, K = 60 * numT t / denT t + 1 := ⟨_, rfl⟩;obtain ⟨k1, k2, k3, k4⟩ := long_law (len := (w : Int)) nb.1.1 nb.2.1 hK (by omega) (by omega)
 have k5 : 60 * numT t / denT t ≤ 60 * numT t := Int.ediv_le_self _ (by omega)
 have k6 : K ≤ 53250001 := by
  have h1 := Int.ediv_mul_le (60 * numT t) (show denT t ≠ 0 by omega)
  have h2 : 60 * numT t / denT t * 200 ≤ 60 * numT t / denT t * denT t := Int.mul_le_mul_of_nonneg_left (by omega) (by omega)
  omega
 have e60 : Int.tdiv (60 * numT t) (denT t) = 60 * numT t / denT t := Int.tdiv_eq_ediv_of_nonneg (by omega)
 have eL : Int.tdiv ((w : Int) * K) 65536 = (w : Int) * K / 65536 := Int.tdiv_eq_ediv_of_nonneg k1;have k7 : (w : Int) * K ≤ 65535 * 53250001 := Int.mul_le_mul (by omega) k6 (by omega) (by omega)
 obtain ⟨L, hL⟩ : ∃ L, L = (w : Int) * K / 65536 := ⟨_, rfl⟩;rw [← hL] at k2 k3 k4 eL;have hp := hPk L;rw [show picksE t L = 0 by unfold picksE; rw [if_pos hck, if_pos (by omega)], if_pos rfl] at hp
 obtain ⟨g1, g2⟩ := hlaw L;have g3 := (Beam.picks_bound hck (n := L) (by omega)).2
 have g4 : picksOf t L ≤ 60 := by
  apply Classical.byContradiction;intro hgt;have : 61 * numT t ≤ picksOf t L * numT t := Int.mul_le_mul_of_nonneg_right (by omega) (by omega)
  omega
 obtain ⟨n, hn⟩ : ∃ n : Nat, picksOf t L = (n : Int) := ⟨(picksOf t L).toNat, by omega⟩
 rw [hn] at hp g1 g2 g3 g4;have g5 : 0 ≤ (n : Int) * numT t := Int.mul_nonneg (by omega) (by omega)
 have g6 : ((n : Int) + 1) * numT t = (n : Int) * numT t + numT t := by rw [Int.add_mul, Int.one_mul]
 have hO := pubOnes_ok n (by omega)
 have hW := Weave_ok (punchN d) hbe hflat 0 (by omega) (List.replicate n 1) (by simp; omega) (fun s hs => by rw [List.eq_of_mem_replicate hs]; omega)
 rw [List.length_replicate, hbl, posW_ones (by omega) n n (by omega), Nat.zero_add] at hW
 have w2 : ∀ i : Nat, i < n → (natsV (wovenW (punchN d) 0 (List.replicate n 1)))[i]? = some (iv ((d.rows.getD (i % d.rows.length) 0 : Nat) : Int)) := fun i hi => by
  unfold natsV wovenW;rw [List.getElem?_map, List.getElem?_map, List.length_replicate, List.getElem?_range hi];simp only [Option.map_some];rw [hbl, posW_ones (by omega) _ i (by omega), hrow, Nat.zero_add]
 have l2 : (natsV (wovenW (punchN d) 0 (List.replicate n 1))).length = n := by simp [natsV, wovenW]
 have pw : (natsV (wovenW (punchN d) 0 (List.replicate n 1))).all AV.plain = true := nat_plain _;have po : (natsV (List.replicate n 1)).all AV.plain = true := nat_plain _;have lo : (natsV (List.replicate n 1)).length = n := by simp [natsV]
 have to : (natsV (List.replicate n 1)).take n = natsV (List.replicate n 1) := List.take_of_length_le (by omega)
 have gd : ∀ i : Nat, i < d.rows.length → (natsV d.rows)[i]? = some (iv ((d.rows.getD i 0 : Nat) : Int)) := fun i h => by
  unfold natsV;rw [List.getElem?_map, List.getD_eq_getElem?_getD, List.getElem?_eq_getElem h]; rfl
 have ld : (natsV d.rows).length = d.rows.length := by simp
 have lc : ((punchN d).cards.map CardN.av).length = d.rows.length := by rw [List.length_map, hbl]
 have pd : (natsV d.rows).all AV.plain = true := nat_plain _;have td : (natsV d.rows).take d.rows.length = natsV d.rows := List.take_of_length_le (by omega)
 have tc : ((punchN d).cards.map CardN.av).take d.rows.length = (punchN d).cards.map CardN.av := List.take_of_length_le (by omega)
 have pc := card_plain (punchN d).cards;rw [show ((0 : Nat) : Int) = 0 from rfl] at hW
 have ezm : Int.tmod (n : Int) (d.rows.length : Int) = ((n % d.rows.length : Nat) : Int) := by rw [Int.tmod_eq_emod_of_nonneg (Int.natCast_nonneg _)]; rfl
 generalize wovenW (punchN d) 0 (List.replicate n 1) = w1 at *;generalize natsV w1 = wv at *;generalize natsV (List.replicate n 1) = ov at *;rw [ep] at hT hGe;simp only [List.map_cons, List.map_nil, PairT.av] at hT hGe;unfold TakeA.av at hp hGe;rw [ep] at hp hGe;simp only [List.map_cons, List.map_nil, PairT.av] at hp hGe;unfold BeltN.av DesN.av at *;dsimp only [punchN] at hW hP lc tc pc;change lim F _ [.agg [_, .list 1 (natsV d.rows)]] = _ at hP;generalize (d.rows.zipIdx.map fun p => (⟨p.2, p.1, false⟩ : CardN)).map CardN.av = cv at *
 generalize natsV d.rows = rv at *;generalize hn' : d.rows.length = m at *;clear hPk hlaw hL k5 hn nb;have k8 : 0 ≤ 60 * numT t / denT t := Int.ediv_nonneg (by omega) (by omega)
 generalize 60 * numT t / denT t = Q at *;subst hK;generalize numT t = N at *;generalize denT t = D at *;generalize t.rat = tr at *;generalize t.step = ts at *;generalize t.round = to' at *;refine lim_by (fn := a3) (k := 3) (res := [.tmp 6]) rfl rfl rfl (by simp -implicitDefEqProofs (maxSteps := 2000000) (disch := first | exact tt_rfl rfl | omega | (simp only [go_sem] <;> omega) | fail) only [go_sem]) ?_
 try delta mvA
 try delta opA
 try delta tA
 simp -implicitDefEqProofs (maxSteps := 2000000) (disch := first | exact tt_rfl rfl | omega | (simp only [go_sem] <;> omega) | fail) only [go_sem]
 have f0 : 0 ≤ L * D := Int.mul_nonneg k2 (by omega)
 have f1 : ¬ (n : Int) < 0 := by omega
 have f2 : ¬ (60 : Int) < n := by omega
 have f3 : ¬ L * D < (n : Int) * N := by omega
 have f4 : ¬ ((n : Int) + 1) * N ≤ L * D := by omega
 repeat (first | apply Wp.seqA | apply Wp.skipS | apply Wp.blockS | ((first | apply Wp.regS | apply Wp.condV | apply Wp.reg | apply Wp.condW | apply fin_ret); simp -implicitDefEqProofs (maxSteps := 2000000) (disch := first | exact tt_rfl rfl | omega | (simp only [go_sem] <;> omega) | fail) only [go_sem, hD, hT, hPa, e60, eL, hGe, hp, hCo, hP, ld, lc, td, tc, pd, pc, f1, f2, f3, f4, hO, hW, l2, pw, po, lo, to, ezm, show ¬ (m : Int) = 0 by omega] <;> try with_reducible rfl) | apply Wp.block | apply Wp.exitS | apply Wp.retS | apply Wp.exit | apply Wp.ret | apply Wp.skip)
 apply Wp.loopF n (fun i => ⟨[(7, .ptr 448 0 0), (12, iv (n : Int)), (16, .slice 1024 0 n), (19, iv (i : Int))], [(448, .box [iv (d.hk : Int), .slice 307169 0 m]), (1024, .arr 1 wv), (307169, .arr 1 rv)], [], 10000000⟩) (fun _ => True)
 ·simp -implicitDefEqProofs (maxSteps := 2000000) (disch := first | exact tt_rfl rfl | omega | (simp only [go_sem] <;> omega) | fail) only [go_sem, norm_eq, Ok.some]
  rfl
 ·trivial
 intro j hj _;by_cases h2 : j < n
 ·have b1 := w2 j h2
  have hm := Nat.mod_lt j (show 0 < m by omega)
  have b2 := gd (j % m) hm;have b3 : Int.tmod (j : Int) (m : Int) = ((j % m : Nat) : Int) := by rw [Int.tmod_eq_emod_of_nonneg (by omega)]; rfl
  clear w2 gd f3 f4 g1 g2 g6 k1 k3 k4 k7 hm1 hm2 hm3 hm4;generalize j % m = y at *;repeat (first | apply Wp.seqA | apply Wp.skipS | apply Wp.blockS | ((first | apply Wp.regS | apply Wp.condV | apply Wp.reg | apply Wp.condW | apply fin_ret); simp -implicitDefEqProofs (maxSteps := 2000000) (disch := first | exact tt_rfl rfl | omega | (simp only [go_sem] <;> omega) | fail) only [go_sem, h2, Int.ofNat_lt, b1, b2, b3, l2, ld, hm, Int.toNat_natCast, show ¬ (m : Int) = 0 by omega] <;> try with_reducible rfl) | apply Wp.block | apply Wp.exitS | apply Wp.retS | apply Wp.exit | apply Wp.ret | apply Wp.skip)
  apply round_next
  ·simp -implicitDefEqProofs (maxSteps := 2000000) (disch := first | exact tt_rfl rfl | omega | (simp only [go_sem] <;> omega) | fail) only [go_sem, norm_eq, Ok.some]; with_reducible rfl
  exact ⟨h2, by simp, trivial⟩
 ·obtain rfl : j = n := by omega
  clear w2 gd f3 f4 g1 g2 g6 k1 k3 k4 k7 hm1 hm2 hm3 hm4;repeat (first | apply Wp.seqA | apply Wp.skipS | apply Wp.blockS | ((first | apply Wp.regS | apply Wp.condV | apply Wp.reg | apply Wp.condW | apply fin_ret); simp -implicitDefEqProofs (maxSteps := 2000000) (disch := first | exact tt_rfl rfl | omega | (simp only [go_sem] <;> omega) | fail) only [go_sem, h2, Int.ofNat_lt, kc, kb] <;> try with_reducible rfl) | apply Wp.block | apply Wp.exitS | apply Wp.retS | apply Wp.exit | apply Wp.ret | apply Wp.skip)
end Go.Abs
