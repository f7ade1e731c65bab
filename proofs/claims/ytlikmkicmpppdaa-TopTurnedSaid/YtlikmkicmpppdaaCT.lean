/-
 Chapter 2: chains all of whose cards lie turned, and chains that are taken backwards. No condition beyond those that each theorem names.
-/
import Derived.Test.YtlikmkicmpppdaaCM
import Derived.Test.YtlikmkicmpppdaaU1
set_option linter.all false
namespace Go.Abs
set_option maxRecDepth 10000
set_option maxHeartbeats 4000000
theorem posW_one {n f : Nat} (hf : f < n) (k : Nat) : ∀ i, i ≤ k → posW n f (List.replicate k 1) i = (f + i) % n
 | 0, _ => by simp [posW, Nat.mod_eq_of_lt hf]
 | i + 1, hi => by
  rw [posW, posW_one hf k i (by omega), List.getElem?_replicate, if_pos (by omega)]
  simp only [Option.getD_some, Nat.mod_add_mod]
  congr 1
theorem pubOne_ok (n : Nat) (h : n ≤ 1000) : lim F 16 [iv (n : Int)] = some (.own 1 (natsV (List.replicate n 1)), []) := by
 have hnl : ∀ i, (natsV (List.replicate i 1)).length = i := fun i => by simp
 have hstep : ∀ i, natsV (List.replicate (i + 1) 1) = natsV (List.replicate i 1) ++ [iv 1] := fun i => by
  unfold natsV;rw [List.replicate_succ', List.map_append]; rfl
 have hpl : ∀ i, (natsV (List.replicate i 1)).all AV.plain = true := fun i => nat_plain _
 refine lim_by (fn := a16) (k := 1) (res := [.tmp 2]) rfl rfl rfl (by simp -implicitDefEqProofs (maxSteps := 2000000) (disch := first | exact tt_rfl rfl | omega | (simp only [go_sem] <;> omega) | fail) only [go_sem]) ?_
 try delta mvA
 try delta opA
 try delta tA
 simp -implicitDefEqProofs (maxSteps := 2000000) (disch := first | exact tt_rfl rfl | omega | (simp only [go_sem] <;> omega) | fail) only [go_sem]
 repeat (first | apply Wp.seqA | apply Wp.skipS | apply Wp.blockS | ((first | apply Wp.regS | apply Wp.condV | apply Wp.reg | apply Wp.condW | apply fin_ret); simp -implicitDefEqProofs (maxSteps := 2000000) (disch := first | exact tt_rfl rfl | omega | (simp only [go_sem] <;> omega) | fail) only [go_sem] <;> try with_reducible rfl) | apply Wp.block | apply Wp.exitS | apply Wp.retS | apply Wp.exit | apply Wp.ret | apply Wp.skip)
 apply Wp.loopF n (fun i => ⟨[(0, iv (n : Int)), (3, .slice 192 0 i), (4, iv (i : Int))], [(192, .arr 1 (natsV (List.replicate i 1)))], [], 10000000⟩) (fun _ => True)
 ·simp -implicitDefEqProofs (maxSteps := 2000000) (disch := first | exact tt_rfl rfl | omega | (simp only [go_sem] <;> omega) | fail) only [go_sem, norm_eq, Ok.some]
  rfl
 ·trivial
 intro i hi _;have n1 := hnl i;have P1 := hpl i;have t1 : (natsV (List.replicate i 1)).take i = natsV (List.replicate i 1) := List.take_of_length_le (by omega)
 by_cases h' : i < n
 ·rw [hstep i]
  clear hstep hnl hpl;generalize natsV (List.replicate i 1) = L at *;repeat (first | apply Wp.seqA | apply Wp.skipS | apply Wp.blockS | ((first | apply Wp.regS | apply Wp.condV | apply Wp.reg | apply Wp.condW | apply fin_ret); simp -implicitDefEqProofs (maxSteps := 2000000) (disch := first | exact tt_rfl rfl | omega | (simp only [go_sem] <;> omega) | fail) only [go_sem, h', Int.ofNat_lt, n1, t1] <;> try with_reducible rfl) | apply Wp.block | apply Wp.exitS | apply Wp.retS | apply Wp.exit | apply Wp.ret | apply Wp.skip)
  apply round_next
  ·simp -implicitDefEqProofs (maxSteps := 2000000) (disch := first | exact tt_rfl rfl | omega | (simp only [go_sem] <;> omega) | fail) only [go_sem, norm_eq, Ok.some]; with_reducible rfl
  exact ⟨h', by simp, trivial⟩
 ·obtain rfl : i = n := by omega
  clear hstep hnl hpl;generalize natsV (List.replicate i 1) = L at *;repeat (first | apply Wp.seqA | apply Wp.skipS | apply Wp.blockS | ((first | apply Wp.regS | apply Wp.condV | apply Wp.reg | apply Wp.condW | apply fin_ret); simp -implicitDefEqProofs (maxSteps := 2000000) (disch := first | exact tt_rfl rfl | omega | (simp only [go_sem] <;> omega) | fail) only [go_sem, h', Int.ofNat_lt, n1, P1, t1] <;> try with_reducible rfl) | apply Wp.block | apply Wp.exitS | apply Wp.retS | apply Wp.exit | apply Wp.ret | apply Wp.skip)
theorem pubSame_self (l : List Nat) (hl : l.length ≤ 1000) : lim F 29 [.list 1 (natsV l), .list 1 (natsV l)] = some (.bool true, []) := by
 have hln : (natsV l).length = l.length := by simp
 have hg := fun i (h : i < l.length) => nats_at h
 generalize natsV l = es at *;refine lim_by (fn := a29) (k := 2) (res := [.tmp 4]) rfl rfl rfl (by simp -implicitDefEqProofs (maxSteps := 2000000) (disch := first | exact tt_rfl rfl | omega | (simp only [go_sem] <;> omega) | fail) only [go_sem]) ?_
 try delta mvA
 try delta opA
 try delta tA
 simp -implicitDefEqProofs (maxSteps := 2000000) (disch := first | exact tt_rfl rfl | omega | (simp only [go_sem] <;> omega) | fail) only [go_sem]
 repeat (first | apply Wp.seqA | apply Wp.skipS | apply Wp.blockS | ((first | apply Wp.regS | apply Wp.condV | apply Wp.reg | apply Wp.condW | apply fin_ret); simp -implicitDefEqProofs (maxSteps := 2000000) (disch := first | exact tt_rfl rfl | omega | (simp only [go_sem] <;> omega) | fail) only [go_sem, hln] <;> try with_reducible rfl) | apply Wp.block | apply Wp.exitS | apply Wp.retS | apply Wp.exit | apply Wp.ret | apply Wp.skip)
 apply Wp.loopF l.length (fun i => ⟨[(0, .list 1 es), (1, .list 1 es), (5, iv (i : Int))], [], [], 10000000⟩) (fun _ => True)
 ·simp -implicitDefEqProofs (maxSteps := 2000000) (disch := first | exact tt_rfl rfl | omega | (simp only [go_sem] <;> omega) | fail) only [go_sem, norm_eq, Ok.some]
  rfl
 ·trivial
 intro i hi _;by_cases h : i < l.length
 ·have h1 := hg i h
  repeat (first | apply Wp.seqA | apply Wp.skipS | apply Wp.blockS | ((first | apply Wp.regS | apply Wp.condV | apply Wp.reg | apply Wp.condW | apply fin_ret); simp -implicitDefEqProofs (maxSteps := 2000000) (disch := first | exact tt_rfl rfl | omega | (simp only [go_sem] <;> omega) | fail) only [go_sem, h, Int.ofNat_lt, h1, hln, bne_self_eq_false] <;> try with_reducible rfl) | apply Wp.block | apply Wp.exitS | apply Wp.retS | apply Wp.exit | apply Wp.ret | apply Wp.skip)
  apply round_next
  ·simp -implicitDefEqProofs (maxSteps := 2000000) (disch := first | exact tt_rfl rfl | omega | (simp only [go_sem] <;> omega) | fail) only [go_sem, norm_eq, Ok.some]; with_reducible rfl
  exact ⟨h, by simp, trivial⟩
 ·obtain rfl : i = l.length := by omega
  repeat (first | apply Wp.seqA | apply Wp.skipS | apply Wp.blockS | ((first | apply Wp.regS | apply Wp.condV | apply Wp.reg | apply Wp.condW | apply fin_ret); simp -implicitDefEqProofs (maxSteps := 2000000) (disch := first | exact tt_rfl rfl | omega | (simp only [go_sem] <;> omega) | fail) only [go_sem, Int.lt_irrefl, hln] <;> try with_reducible rfl) | apply Wp.block | apply Wp.exitS | apply Wp.retS | apply Wp.exit | apply Wp.ret | apply Wp.skip)
theorem pubCopyN_ok (d : DesN) (h : d.rows.length ≤ 1000) : lim F 14 [.agg [iv (d.hk : Int), .list 1 (natsV d.rows)]] = some (.agg [iv (d.hk : Int), .own 1 (natsV d.rows)], []) := by
 have hln : (natsV d.rows).length = d.rows.length := by simp
 have htk : (natsV d.rows).take d.rows.length = natsV d.rows := List.take_of_length_le (by simp)
 generalize natsV d.rows = ps at *;refine lim_by (fn := a14) (k := 1) (res := [.cell 2 2 true]) rfl rfl rfl (by simp -implicitDefEqProofs (maxSteps := 2000000) (disch := first | exact tt_rfl rfl | omega | (simp only [go_sem] <;> omega) | fail) only [go_sem]) ?_
 try delta mvA
 try delta opA
 try delta tA
 simp -implicitDefEqProofs (maxSteps := 2000000) (disch := first | exact tt_rfl rfl | omega | (simp only [go_sem] <;> omega) | fail) only [go_sem]
 repeat (first | apply Wp.seqA | apply Wp.skipS | apply Wp.blockS | ((first | apply Wp.regS | apply Wp.condV | apply Wp.reg | apply Wp.condW | apply fin_ret); simp -implicitDefEqProofs (maxSteps := 2000000) (disch := first | exact tt_rfl rfl | omega | (simp only [go_sem] <;> omega) | fail) only [go_sem, hln, htk] <;> try with_reducible rfl) | apply Wp.block | apply Wp.exitS | apply Wp.retS | apply Wp.exit | apply Wp.ret | apply Wp.skip)
theorem mirR_lt (hk r : Nat) : mirR hk r < 2 ^ hk := rowTo_lt _ _
theorem mirR_twice {hk r : Nat} (h : r < 2 ^ hk) : mirR hk (mirR hk r) = r := row_eq (mirR_lt _ _) h fun j hj => by
 unfold mirR;rw [rowTo_bit, rowTo_bit, decide_eq_true hj, decide_eq_true (show hk - 1 - j < hk by omega), Bool.true_and, Bool.true_and, show hk - 1 - (hk - 1 - j) = j by omega]
theorem mirror_rows {d : DesN} (hd : d.Ok) : (mirrorN d).rows = d.rows.map (mirR d.hk) := by
 unfold mirrorN madeN;apply List.ext_getElem
 ·simp
 ·intro q h1 h2
  have hq : q < d.rows.length := by simpa using h2
  have hh := hd.h1;rw [List.getElem_map, List.getElem_range, List.getElem_map];apply rowTo_congr;intro j hj;dsimp only;unfold atN;rw [Nat.mod_eq_of_lt hq, Nat.mod_eq_of_lt (by omega), rows_get hq]
theorem flip_rows {d : DesN} (hd : d.Ok) : (flipN d).rows = d.rows.reverse := by
 unfold flipN madeN;apply List.ext_getElem
 ·simp
 ·intro q h1 h2
  have hq : q < d.rows.length := by simpa using h2
  rw [List.getElem_map, List.getElem_range, List.getElem_reverse];have hlt := hd.lt _ (List.getElem_mem (show d.rows.length - 1 - q < d.rows.length by omega))
  have hs := rowTo_self hlt;rw [← hs];apply rowTo_congr;intro j hj;dsimp only;unfold atN;rw [Nat.mod_eq_of_lt (by omega), Nat.mod_eq_of_lt hj, rows_get (by omega)]
  try rw [hs]
def turnN (d : DesN) (k : Nat) : BeltN := ⟨d.hk, d.rows.zipIdx.map fun p => ⟨p.2, p.1, decide (p.2 < k)⟩⟩
def backsN (d : DesN) : BeltN := ⟨d.hk, (punchN d).cards.reverse⟩
theorem turn_len (d : DesN) (k : Nat) : (turnN d k).cards.length = d.rows.length := by simp [turnN]
theorem turn_zero (d : DesN) : turnN d 0 = punchN d := by simp [turnN, punchN]
theorem turn_at (d : DesN) (k i : Nat) (h : i < d.rows.length) : (turnN d k).cards[i]? = some ⟨i, d.rows.getD i 0, decide (i < k)⟩ := by
 unfold turnN;rw [List.getElem?_map, List.getElem?_zipIdx, List.getElem?_eq_getElem h, List.getD_eq_getElem?_getD, List.getElem?_eq_getElem h];simp
theorem turn_ok (d : DesN) (hd : d.Ok) (k : Nat) : (turnN d k).Ok where
 h1 := hd.h1
 h24 := hd.h24
 c1 := by rw [turn_len]; exact hd.r1
 c60 := by rw [turn_len]; exact hd.r60
 lt := fun c hc => by
  obtain ⟨p, hp, rfl⟩ := List.mem_map.1 hc;obtain ⟨r, i⟩ := p;rw [List.mem_zipIdx_iff_getElem?] at hp;have := (List.getElem?_eq_some_iff.1 hp).1;have := hd.r60;exact ⟨by simp only; omega, hd.lt _ (List.mem_of_getElem? hp)⟩
theorem backs_len (d : DesN) : (backsN d).cards.length = d.rows.length := by simp [backsN, punch_len]
theorem backs_ok (d : DesN) (hd : d.Ok) : (backsN d).Ok where
 h1 := hd.h1
 h24 := hd.h24
 c1 := by rw [backs_len]; exact hd.r1
 c60 := by rw [backs_len]; exact hd.r60
 lt := fun c hc => (punch_ok d hd).lt c (by simpa [backsN] using hc)
theorem backs_flat (d : DesN) : ∀ c ∈ (backsN d).cards, c.turned = false := fun c hc => punch_flat d c (by simpa [backsN] using hc)
theorem backs_row (d : DesN) (i : Nat) (h : i < d.rows.length) : rowAt (backsN d) i = d.rows.getD (d.rows.length - 1 - i) 0 := by
 have := punch_row d (d.rows.length - 1 - i);rw [← this];unfold rowAt backsN;dsimp only;rw [List.getElem?_reverse (by rw [punch_len]; exact h), punch_len]
theorem turned_lifts (d : DesN) (hd : d.Ok) (h2 : 2 ≤ d.hk) (h8 : d.hk ≤ 8) (i : Nat) (h : i < (turnN d d.rows.length).cards.length) : lim F 45 [.agg [iv ((turnN d d.rows.length).hk : Int), .list 3 ((turnN d d.rows.length).cards.map CardN.av), iv ((turnN d d.rows.length).hk : Int)], iv (i : Int)] = some (iv (mirR d.hk (d.rows.getD i 0) : Int), []) := by
 rw [turn_len] at h;have hg : ((turnN d d.rows.length).cards.map CardN.av)[i]? = some (.agg [iv (i : Int), iv (d.rows.getD i 0 : Int), .bool true]) := by
  rw [List.getElem?_map, turn_at d _ i h];simp only [Option.map_some, CardN.av, decide_eq_true h]
 have hlt : d.rows.getD i 0 < 2 ^ d.hk := by rw [rows_get h]; exact hd.lt _ (List.getElem_mem h)
 have hm := mirror_row d.hk h2 h8 _ hlt;have hln : ((turnN d d.rows.length).cards.map CardN.av).length = d.rows.length := by rw [List.length_map, turn_len]
 change lim F _ [.agg [iv (d.hk : Int), _, iv (d.hk : Int)], _] = _;generalize (turnN d d.rows.length).cards.map CardN.av = es at *;generalize mirR d.hk (d.rows.getD i 0) = m at *;generalize d.rows.getD i 0 = r at *;generalize d.rows.length = n at *;refine lim_by (fn := a45) (k := 2) (res := [.tmp 4]) rfl rfl rfl (by simp -implicitDefEqProofs (maxSteps := 2000000) (disch := first | exact tt_rfl rfl | omega | (simp only [go_sem] <;> omega) | fail) only [go_sem]) ?_
 try delta mvA
 try delta opA
 try delta tA
 simp -implicitDefEqProofs (maxSteps := 2000000) (disch := first | exact tt_rfl rfl | omega | (simp only [go_sem] <;> omega) | fail) only [go_sem]
 repeat (first | apply Wp.seqA | apply Wp.skipS | apply Wp.blockS | ((first | apply Wp.regS | apply Wp.condV | apply Wp.reg | apply Wp.condW | apply fin_ret); simp -implicitDefEqProofs (maxSteps := 2000000) (disch := first | exact tt_rfl rfl | omega | (simp only [go_sem] <;> omega) | fail) only [go_sem, hg, hln, Int.toNat_natCast, h, Int.ofNat_lt, hm] <;> try with_reducible rfl) | apply Wp.block | apply Wp.exitS | apply Wp.retS | apply Wp.exit | apply Wp.ret | apply Wp.skip)
theorem Weave_turned (d : DesN) (hd : d.Ok) (h2 : 2 ≤ d.hk) (h8 : d.hk ≤ 8) : ∃ at' : Int, lim F 15 [.agg [iv (d.hk : Int), .list 3 ((turnN d d.rows.length).cards.map CardN.av)], iv 0, .list 1 (natsV (List.replicate d.rows.length 1))] = some (.tuple [.own 1 (natsV (mirrorN d).rows), iv at', iv 0], []) := by
 have h1 := hd.r1;have h60 := hd.r60;have h := Weave_of (turnN d d.rows.length) (turn_ok d hd _) (fun i => mirR d.hk (d.rows.getD i 0)) (fun i h => turned_lifts d hd h2 h8 i h) 0 (by rw [turn_len]; omega) (List.replicate d.rows.length 1) (by simp; omega) (fun s hs => by rw [List.eq_of_mem_replicate hs]; omega)
 rw [turn_len, List.length_replicate] at h;have e : ((List.range d.rows.length).map fun i => mirR d.hk (d.rows.getD (posW d.rows.length 0 (List.replicate d.rows.length 1) i) 0)) = (mirrorN d).rows := by
  rw [mirror_rows hd];apply List.ext_getElem
  ·simp
  ·intro q q1 q2
   have hq : q < d.rows.length := by simpa using q2
   rw [List.getElem_map, List.getElem_range, List.getElem_map, posW_one (by omega) _ q (by omega), Nat.zero_add, Nat.mod_eq_of_lt hq, rows_get hq]
 rw [e] at h;exact ⟨_, h⟩
theorem Weave_backs (d : DesN) (hd : d.Ok) : ∃ at' : Int, lim F 15 [.agg [iv (d.hk : Int), .list 3 ((backsN d).cards.map CardN.av)], iv 0, .list 1 (natsV (List.replicate d.rows.length 1))] = some (.tuple [.own 1 (natsV (flipN d).rows), iv at', iv 0], []) := by
 have h1 := hd.r1;have h60 := hd.r60;have h := Weave_ok (backsN d) (backs_ok d hd) (backs_flat d) 0 (by rw [backs_len]; omega) (List.replicate d.rows.length 1) (by simp; omega) (fun s hs => by rw [List.eq_of_mem_replicate hs]; omega)
 unfold wovenW at h;rw [backs_len, List.length_replicate] at h;have e : ((List.range d.rows.length).map fun i => rowAt (backsN d) (posW d.rows.length 0 (List.replicate d.rows.length 1) i)) = (flipN d).rows := by
  rw [flip_rows hd];apply List.ext_getElem
  ·simp
  ·intro q q1 q2
   have hq : q < d.rows.length := by simpa using q2
   rw [List.getElem_map, List.getElem_range, List.getElem_reverse, posW_one (by omega) _ q (by omega), Nat.zero_add, Nat.mod_eq_of_lt hq, backs_row d q hq, rows_get (by omega)]
 rw [e] at h;exact ⟨_, h⟩
end Go.Abs
