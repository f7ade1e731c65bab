/-
 TopRounds: what a chain weaves in some rounds repeats as soon as the design that was punched, and has the same longest floats. No condition beyond those that each theorem names.
-/
import Derived.Test.YtlikmkicmpppdaaCT
import Derived.Test.YtlikmkicmpppdaaMR
import Derived.Test.YtlikmkicmpppdaaP6b
import Derived.Test.YtlikmkicmpppdaaV0
import Derived.Test.YtlikmkicmpppdaaU1
set_option linter.all false
namespace Go.Abs
set_option maxRecDepth 10000
set_option maxHeartbeats 8000000
theorem LongestN_ok (d : DesN) (hd : d.Ok) : lim F 32 [d.av] = some (.tuple [.agg [iv (mxF false (weftF d)), iv (mxF true (weftF d)), iv (mxF true (warpF d)), iv (mxF false (warpF d))], iv 0], []) := by
 have h60 := hd.r60;have hc := Check_ok d.a (by simp [DesN.a]; omega)
 rw [checkD_ok hd, DesN.a_av] at hc;have e1 := floats1_ok d;have e2 := floats2_ok d;have g1 := weft_guess d hd;have g2 := warp_guess d hd;have k1 := weft_check d hd;have k2 := warp_check d hd;unfold DesN.av at *;exact longest_of _ _ _ _ _ hc e1 e2 g1 g2 k1 k2
theorem rounds_main (kp : lim F 30 [] = some (.bool true, [])) (kc : lim F 17 [] = some (.bool true, [])) (v : Nat) (hv : v < 256) (l : List WordB) (a b : Nat) (ha : a < 256) (hb : b < 256) : lim F 6 [.int .u8 (v : Int), .list 1 (wordsV l), .agg [.int .u8 (a : Int), .int .u8 (b : Int)]] = some (.bool true, []) := by
 have hd := pub_ok v l;have hrw := pub_rows v l;have hD := pubDesign_ok v hv l;generalize pubN v l = d at *;have hf := Nat.mod_lt a (show 0 < d.rows.length by omega)
 have hr := Nat.mod_lt b (show 0 < 4 by omega)
 obtain ⟨r, hrr⟩ : ∃ r, r = 1 + b % 4 := ⟨_, rfl⟩;obtain ⟨f, hff⟩ : ∃ f, f = a % d.rows.length := ⟨_, rfl⟩;have hnr : d.rows.length * r ≤ 12 * 4 := Nat.mul_le_mul (by omega) (by omega)
 have r1 : 1 ≤ r := by omega
 have he := rounds_ok hd f r r1 (by omega)
 have hl := rounds_len d f r;have lk := rounds_like hd (f := f) r1 (by omega)
 have c1 := pubCopyN_ok d (by omega)
 have c2 := pubCopyN_ok (roundsN d f r) (by omega)
 have hP := Punch_ok d hd;have hO := pubOne_ok (d.rows.length * r) (by omega)
 have L1 := Least_ok d hd;have L2 := Least_ok (roundsN d f r) he;rw [rounds_leastP hd r1 (by omega), rounds_leastH hd r1 (by omega)] at L2
 have G1 := LongestN_ok d hd;have G2 := LongestN_ok (roundsN d f r) he;rw [lk.weft, lk.weft, lk.warp, lk.warp] at G2;have hW := Weave_ok (punchN d) (punch_ok d hd) (punch_flat d) f (by rw [punch_len]; omega) (List.replicate (d.rows.length * r) 1) (by simp; omega) (fun s hs => by rw [List.eq_of_mem_replicate hs]; omega)
 have e1 : wovenW (punchN d) f (List.replicate (d.rows.length * r) 1) = (roundsN d f r).rows := by
  unfold wovenW roundsN;rw [punch_len, List.length_replicate];apply List.map_congr_left;intro i hi;rw [posW_one (by omega) _ i (by have := List.mem_range.1 hi; omega), punch_row]
 rw [e1] at hW;generalize posW (punchN d).cards.length f (List.replicate (d.rows.length * r) 1) (List.replicate (d.rows.length * r) 1).length = pz at *;have ld : (natsV d.rows).length = d.rows.length := by simp
 have le : (natsV (roundsN d f r).rows).length = d.rows.length * r := by simp [natsV, hl]
 have lc : ((punchN d).cards.map CardN.av).length = d.rows.length := by rw [List.length_map, punch_len]
 have pd : (natsV d.rows).all AV.plain = true := nat_plain _;have pe : (natsV (roundsN d f r).rows).all AV.plain = true := nat_plain _;have td : (natsV d.rows).take d.rows.length = natsV d.rows := List.take_of_length_le (by omega)
 have te : (natsV (roundsN d f r).rows).take (d.rows.length * r) = natsV (roundsN d f r).rows := List.take_of_length_le (by omega)
 have tc : ((punchN d).cards.map CardN.av).take d.rows.length = (punchN d).cards.map CardN.av := List.take_of_length_le (by omega)
 have pc := card_plain (punchN d).cards;have po : (natsV (List.replicate (d.rows.length * r) 1)).all AV.plain = true := nat_plain _;have lo : (natsV (List.replicate (d.rows.length * r) 1)).length = d.rows.length * r := by simp [natsV]
 have to : (natsV (List.replicate (d.rows.length * r) 1)).take (d.rows.length * r) = natsV (List.replicate (d.rows.length * r) 1) := List.take_of_length_le (by omega)
 unfold DesN.av at hP L1 L2 G1 G2;unfold BeltN.av at hW;change lim F _ [.agg [_, .list 1 (natsV d.rows)]] = _ at hP;change lim F _ [.agg [_, .list 1 (natsV d.rows)]] = _ at L1;change lim F _ [.agg [_, .list 1 (natsV d.rows)]] = _ at G1;change lim F _ [.agg [iv (d.hk : Int), .list 1 (natsV (roundsN d f r).rows)]] = _ at L2;change lim F _ [.agg [iv (d.hk : Int), .list 1 (natsV (roundsN d f r).rows)]] = _ at G2;change lim F _ [.agg [iv (d.hk : Int), .list 1 (natsV (roundsN d f r).rows)]] = some (.agg [iv (d.hk : Int), _], _) at c2;change lim F _ [.agg [iv (d.hk : Int), _], _, _] = _ at hW;generalize natsV (roundsN d f r).rows = Ev at *;generalize natsV d.rows = Rv at *;generalize (punchN d).cards.map CardN.av = cv at *;generalize natsV (List.replicate (d.rows.length * r) 1) = ov at *;generalize mxF false (weftF d) = x1 at *;generalize mxF true (weftF d) = x2 at *;generalize mxF false (warpF d) = x3 at *;generalize mxF true (warpF d) = x4 at *;have lp : leastP d ≤ 10000 := by
  unfold leastP perT;cases hx : (List.range d.rows.length).find? (perAt d.rows.length (sameP d)) with
  | none => simp; omega
  | some q => have := List.mem_range.1 (List.mem_of_find?_eq_some hx); simp; omega
 generalize leastP d = lp' at *;generalize leastH d = lh' at *;have t1 : Int.tmod (a : Int) (d.rows.length : Int) = (f : Int) := by rw [Int.tmod_eq_emod_of_nonneg (Int.natCast_nonneg _), hff]; rfl
 have t2 : Int.tmod (b : Int) 4 = ((b % 4 : Nat) : Int) := by rw [Int.tmod_eq_emod_of_nonneg (Int.natCast_nonneg _)]; rfl
 have t3 : (1 : Int) + ((b % 4 : Nat) : Int) = (r : Int) := by omega
 have t4 : (d.rows.length : Int) * (r : Int) = ((d.rows.length * r : Nat) : Int) := by simp
 generalize d.rows.length * r = m at *;generalize hn : d.rows.length = n at *;refine lim_by (fn := a6) (k := 3) (res := [.tmp 6]) rfl rfl rfl (by simp -implicitDefEqProofs (maxSteps := 2000000) (disch := first | exact tt_rfl rfl | omega | (simp only [go_sem] <;> omega) | fail) only [go_sem]) ?_
 try delta mvA
 try delta opA
 try delta tA
 simp -implicitDefEqProofs (maxSteps := 2000000) (disch := first | exact tt_rfl rfl | omega | (simp only [go_sem] <;> omega) | fail) only [go_sem]
 repeat (first | apply Wp.seqA | apply Wp.skipS | apply Wp.blockS | ((first | apply Wp.regS | apply Wp.condV | apply Wp.reg | apply Wp.condW | apply fin_ret); simp -implicitDefEqProofs (maxSteps := 2000000) (disch := first | exact tt_rfl rfl | omega | (simp only [go_sem] <;> omega) | fail) only [go_sem, hD, c1, hP, ld, td, pd, lc, tc, pc, t1, t2, t3, t4, hO, hW, lo, to, po, le, te, pe, L1, L2, G1, G2, c2, kp, kc, show ¬ (n : Int) = 0 by omega] <;> try with_reducible rfl) | apply Wp.block | apply Wp.exitS | apply Wp.retS | apply Wp.exit | apply Wp.ret | apply Wp.skip)
end Go.Abs
