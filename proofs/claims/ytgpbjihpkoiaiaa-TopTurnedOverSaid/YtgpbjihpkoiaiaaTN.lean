/-
 Chapter 2: chains of up to 12 hooks whose cards all lie turned. No condition beyond those that each theorem names.
-/
import Derived.Test.YtgpbjihpkoiaiaaCT
import Derived.Test.YtgpbjihpkoiaiaaCS
import Derived.Test.YtgpbjihpkoiaiaaRV
set_option linter.all false
namespace Go.Abs
set_option maxRecDepth 100000
set_option maxHeartbeats 4000000
theorem mirror_row12 (hk : Nat) (h1 : 1 ≤ hk) (h12 : hk ≤ 12) (r : Nat) (hr : r < 2 ^ hk) : lim F 153 [iv (hk : Int), iv (r : Int)] = some (iv (mirR hk r : Int), []) := mirror_rowv hk h1 (by omega) r hr
theorem turned_lifts12 (d : DesN) (hd : d.Ok) (h12 : d.hk ≤ 12) (i : Nat) (h : i < (turnN d d.rows.length).cards.length) : lim F 102 [.agg [iv ((turnN d d.rows.length).hk : Int), .list 3 ((turnN d d.rows.length).cards.map CardN.av), iv ((turnN d d.rows.length).hk : Int)], iv (i : Int)] = some (iv (mirR d.hk (d.rows.getD i 0) : Int), []) := by
 rw [turn_len] at h;have hg : ((turnN d d.rows.length).cards.map CardN.av)[i]? = some (.agg [iv (i : Int), iv (d.rows.getD i 0 : Int), .bool true]) := by
  rw [List.getElem?_map, turn_at d _ i h];simp only [Option.map_some, CardN.av, decide_eq_true h]
 have hlt : d.rows.getD i 0 < 2 ^ d.hk := by rw [rows_get h]; exact hd.lt _ (List.getElem_mem h)
 have hm := mirror_row12 d.hk hd.h1 h12 _ hlt;have hln : ((turnN d d.rows.length).cards.map CardN.av).length = d.rows.length := by rw [List.length_map, turn_len]
 change lim F _ [.agg [iv (d.hk : Int), _, iv (d.hk : Int)], _] = _;generalize (turnN d d.rows.length).cards.map CardN.av = es at *;generalize mirR d.hk (d.rows.getD i 0) = m at *;generalize d.rows.getD i 0 = r at *;generalize d.rows.length = n at *;refine lim_by (fn := a102) (k := 2) (res := [.tmp 4]) rfl rfl rfl (by simp -implicitDefEqProofs (maxSteps := 2000000) (disch := first | exact tt_rfl rfl | omega | (simp only [go_sem] <;> omega) | fail) only [go_sem]) ?_
 try delta mvA
 try delta opA
 try delta tA
 simp -implicitDefEqProofs (maxSteps := 2000000) (disch := first | exact tt_rfl rfl | omega | (simp only [go_sem] <;> omega) | fail) only [go_sem]
 repeat (first | apply Wp.seqA | apply Wp.skipS | apply Wp.blockS | ((first | apply Wp.regS | apply Wp.condV | apply Wp.reg | apply Wp.condW | apply fin_ret); simp -implicitDefEqProofs (maxSteps := 2000000) (disch := first | exact tt_rfl rfl | omega | (simp only [go_sem] <;> omega) | fail) only [go_sem, hg, hln, Int.toNat_natCast, h, Int.ofNat_lt, hm] <;> try with_reducible rfl) | apply Wp.block | apply Wp.exitS | apply Wp.retS | apply Wp.exit | apply Wp.ret | apply Wp.skip)
theorem Weave_turned12 (d : DesN) (hd : d.Ok) (h12 : d.hk ≤ 12) : ∃ at' : Int, lim F 45 [.agg [iv (d.hk : Int), .list 3 ((turnN d d.rows.length).cards.map CardN.av)], iv 0, .list 1 (natsV (List.replicate d.rows.length 1))] = some (.tuple [.own 1 (natsV (mirrorN d).rows), iv at', iv 0], []) := by
 have h1 := hd.r1;have h60 := hd.r60;have h := Weave_of (turnN d d.rows.length) (turn_ok d hd _) (fun i => mirR d.hk (d.rows.getD i 0)) (fun i h => turned_lifts12 d hd h12 i h) 0 (by rw [turn_len]; omega) (List.replicate d.rows.length 1) (by simp; omega) (fun s hs => by rw [List.eq_of_mem_replicate hs]; omega)
 rw [turn_len, List.length_replicate] at h;have e : ((List.range d.rows.length).map fun i => mirR d.hk (d.rows.getD (posW d.rows.length 0 (List.replicate d.rows.length 1) i) 0)) = (mirrorN d).rows := by
  rw [mirror_rows hd];apply List.ext_getElem
  ·simp
  ·intro q q1 q2
   have hq : q < d.rows.length := by simpa using q2
   rw [List.getElem_map, List.getElem_range, List.getElem_map, posW_one (by omega) _ q (by omega), Nat.zero_add, Nat.mod_eq_of_lt hq, rows_get hq]
 rw [e] at h;exact ⟨_, h⟩
theorem mirN_okC {d : DesN} (hd : d.Ok) : (mirrorN d).Ok where
 h1 := hd.h1
 h24 := hd.h24
 r1 := by simpa [mirrorN, madeN] using hd.r1
 r60 := by simpa [mirrorN, madeN] using hd.r60
 lt := fun r hr => by
  rw [mirror_rows hd] at hr;obtain ⟨q, _, rfl⟩ := List.mem_map.1 hr;exact mirR_lt _ _
theorem backN_okC {d : DesN} (hd : d.Ok) : (backN d).Ok where
 h1 := hd.h1
 h24 := hd.h24
 r1 := by simpa [backN, madeN] using hd.r1
 r60 := by simpa [backN, madeN] using hd.r60
 lt := fun r hr => by
  unfold backN madeN at hr;obtain ⟨q, _, rfl⟩ := List.mem_map.1 hr;exact rowTo_lt _ _
theorem mir_bit {d : DesN} (hd : d.Ok) {p w : Nat} (hp : p < d.rows.length) (hw : w < d.hk) : ((mirrorN d).rows.getD p 0).testBit (d.hk - 1 - w) = (d.rows.getD p 0).testBit w := by
 rw [mirror_rows hd, List.getD_eq_getElem?_getD, List.getElem?_map, List.getElem?_eq_getElem hp, List.getD_eq_getElem?_getD, List.getElem?_eq_getElem hp];simp only [Option.map_some, Option.getD_some];unfold mirR;rw [rowTo_bit, decide_eq_true (show d.hk - 1 - w < d.hk by omega), Bool.true_and, show d.hk - 1 - (d.hk - 1 - w) = w by omega]
theorem back_bit {d : DesN} {p w : Nat} (hp : p < d.rows.length) (hw : w < d.hk) : ((backN d).rows.getD p 0).testBit w = !(d.rows.getD p 0).testBit w := by
 unfold backN madeN;dsimp only;rw [List.getD_eq_getElem?_getD, List.getElem?_map, List.getElem?_range hp];simp only [Option.map_some, Option.getD_some];rw [rowTo_bit, decide_eq_true hw, Bool.true_and];unfold atN;rw [Nat.mod_eq_of_lt hp, Nat.mod_eq_of_lt hw]
theorem turn_setC (d : DesN) (i : Nat) (h : i < d.rows.length) : ((turnN d i).cards.map CardN.av).set i (.agg [iv (i : Int), iv (d.rows.getD i 0 : Int), .bool true]) = (turnN d (i + 1)).cards.map CardN.av := by
 apply List.ext_getElem?;intro j;by_cases hj : j = i
 ·subst hj
  rw [List.getElem?_set_self (by rw [List.length_map, turn_len]; exact h), List.getElem?_map, turn_at d _ j h]
  simp [CardN.av]
 ·rw [List.getElem?_set_ne (Ne.symm hj), List.getElem?_map, List.getElem?_map]
  by_cases hjn : j < d.rows.length
  ·rw [turn_at d _ j hjn, turn_at d _ j hjn]
   have : decide (j < i) = decide (j < i + 1) := by
    by_cases h1 : j < i
    ·rw [decide_eq_true h1, decide_eq_true (by omega)]
    ·rw [decide_eq_false h1, decide_eq_false (by omega)]
   rw [this]
  ·rw [List.getElem?_eq_none (by rw [turn_len]; omega), List.getElem?_eq_none (by rw [turn_len]; omega)]
theorem armSame_self (l : List Nat) (hl : l.length ≤ 1000) : lim F 47 [.list 1 (natsV l), .list 1 (natsV l)] = some (.bool true, []) := by
 have hln : (natsV l).length = l.length := by simp
 have hg := fun i (h : i < l.length) => nats_at h
 generalize natsV l = es at *;refine lim_by (fn := a47) (k := 2) (res := [.tmp 4]) rfl rfl rfl (by simp -implicitDefEqProofs (maxSteps := 2000000) (disch := first | exact tt_rfl rfl | omega | (simp only [go_sem] <;> omega) | fail) only [go_sem]) ?_
 try delta mvA
 try delta opA
 try delta tA
 simp -implicitDefEqProofs (maxSteps := 2000000) (disch := first | exact tt_rfl rfl | omega | (simp only [go_sem] <;> omega) | fail) only [go_sem]
 repeat (first | apply Wp.seqA | apply Wp.skipS | apply Wp.blockS | ((first | apply Wp.regS | apply Wp.condV | apply Wp.reg | apply Wp.condW | apply fin_ret); simp -implicitDefEqProofs (maxSteps := 2000000) (disch := first | exact tt_rfl rfl | omega | (simp only [go_sem] <;> omega) | fail) only [go_sem, hln] <;> try with_reducible rfl) | apply Wp.block | apply Wp.exitS | apply Wp.retS | apply Wp.exit | apply Wp.ret | apply Wp.skip)
 apply Wp.loopF l.length (fun i => ⟨[(0, .list 1 es), (1, .list 1 es), (5, iv (i : Int))], [], [], 10000000⟩) (fun _ => True)
 ·simp -implicitDefEqProofs (maxSteps := 2000000) (disch := first | exact tt_rfl rfl | omega | (simp only [go_sem] <;> omega) | fail) only [go_sem, norm_eq, Ok.some]
  rfl
 ·trivial
 intro i hi _;by_cases h : i < l.length
 ·have h1 := hg i h
  repeat (first | apply Wp.seqA | apply Wp.skipS | apply Wp.blockS | ((first | apply Wp.regS | apply Wp.condV | apply Wp.reg | apply Wp.condW | apply fin_ret); simp -implicitDefEqProofs (maxSteps := 2000000) (disch := first | exact tt_rfl rfl | omega | (simp only [go_sem] <;> omega) | fail) only [go_sem, h, Int.ofNat_lt, h1, hln, bne_self_eq_false] <;> try with_reducible rfl) | apply Wp.block | apply Wp.exitS | apply Wp.retS | apply Wp.exit | apply Wp.ret | apply Wp.skip)
  apply round_next
  ·simp -implicitDefEqProofs (maxSteps := 2000000) (disch := first | exact tt_rfl rfl | omega | (simp only [go_sem] <;> omega) | fail) only [go_sem, norm_eq, Ok.some]; with_reducible rfl
  exact ⟨h, by simp, trivial⟩
 ·obtain rfl : i = l.length := by omega
  repeat (first | apply Wp.seqA | apply Wp.skipS | apply Wp.blockS | ((first | apply Wp.regS | apply Wp.condV | apply Wp.reg | apply Wp.condW | apply fin_ret); simp -implicitDefEqProofs (maxSteps := 2000000) (disch := first | exact tt_rfl rfl | omega | (simp only [go_sem] <;> omega) | fail) only [go_sem, Int.lt_irrefl, hln] <;> try with_reducible rfl) | apply Wp.block | apply Wp.exitS | apply Wp.retS | apply Wp.exit | apply Wp.ret | apply Wp.skip)
end Go.Abs
