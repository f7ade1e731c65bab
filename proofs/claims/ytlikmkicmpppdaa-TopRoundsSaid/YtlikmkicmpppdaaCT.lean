/-
 Chapter 2: chains all of whose cards lie turned, and chains that are taken backwards. No condition beyond those that each theorem names.
-/
import Derived.Test.YtlikmkicmpppdaaCM
import Derived.Test.YtlikmkicmpppdaaU1
set_option linter.all false
namespace Go.Abs
set_option maxRecDepth 10000
set_option maxHeartbeats 4000000
theorem posW_one {n f : Nat} (hf : f < n) (k : Nat) : ∀ i, i ≤ k → posW n f (List.replicate k 1) i = (f + i) % n
 | 0, _ => by simp [posW, Nat.mod_eq_of_lt hf]
 | i + 1, hi => by
  rw [posW, posW_one hf k i (by omega), List.getElem?_replicate, if_pos (by omega)]
  simp only [Option.getD_some, Nat.mod_add_mod]
  congr 1
theorem pubOne_ok (n : Nat) (h : n ≤ 1000) : lim F 16 [iv (n : Int)] = some (.own 1 (natsV (List.replicate n 1)), []) := by
 have hnl : ∀ i, (natsV (List.replicate i 1)).length = i := fun i => by simp
 have hstep : ∀ i, natsV (List.replicate (i + 1) 1) = natsV (List.replicate i 1) ++ [iv 1] := fun i => by
  unfold natsV;rw [List.replicate_succ', List.map_append]; rfl
 have hpl : ∀ i, (natsV (List.replicate i 1)).all AV.plain = true := fun i => nat_plain _
 refine lim_by (fn := a16) (k := 1) (res := [.tmp 2]) rfl rfl rfl (by simp -implicitDefEqProofs (maxSteps := 2000000) (disch := first | exact tt_rfl rfl | omega | (simp only [go_sem] <;> omega) | fail) only [go_sem]) ?_
 try delta mvA
 try delta opA
 try delta tA
 simp -implicitDefEqProofs (maxSteps := 2000000) (disch := first | exact tt_rfl rfl | omega | (simp only [go_sem] <;> omega) | fail) only [go_sem]
 repeat (first | apply Wp.seqA | apply Wp.skipS | apply Wp.blockS | ((first | apply Wp.regS | apply Wp.condV | apply Wp.reg | apply Wp.condW | apply fin_ret); simp -implicitDefEqProofs (maxSteps := 2000000) (disch := first | exact tt_rfl rfl | omega | (simp only [go_sem] <;> omega) | fail) only [go_sem] <;> try with_reducible rfl) | apply Wp.block | apply Wp.exitS | apply Wp.retS | apply Wp.exit | apply Wp.ret | apply Wp.skip)
 apply Wp.loopF n (fun i => ⟨[(0, iv (n : Int)), (3, .slice 192 0 i), (4, iv (i : Int))], [(192, .arr 1 (natsV (List.replicate i 1)))], [], 10000000⟩) (fun _ => True)
 ·simp -implicitDefEqProofs (maxSteps := 2000000) (disch := first | exact tt_rfl rfl | omega | (simp only [go_sem] <;> omega) | fail) only [go_sem, norm_eq, Ok.some]
  rfl
 ·trivial
 intro i hi _;have n1 := hnl i;have P1 := hpl i;have t1 : (natsV (List.replicate i 1)).take i = natsV (List.replicate i 1) := List.take_of_length_le (by omega)
 by_cases h' : i < n
 ·rw [hstep i]
  clear hstep hnl hpl;generalize natsV (List.replicate i 1) = L at *;repeat (first | apply Wp.seqA | apply Wp.skipS | apply Wp.blockS | ((first | apply Wp.regS | apply Wp.condV | apply Wp.reg | apply Wp.condW | apply fin_ret); simp -implicitDefEqProofs (maxSteps := 2000000) (disch := first | exact tt_rfl rfl | omega | (simp only [go_sem] <;> omega) | fail) only [go_sem, h', Int.ofNat_lt, n1, t1] <;> try with_reducible rfl) | apply Wp.block | apply Wp.exitS | apply Wp.retS | apply Wp.exit | apply Wp.ret | apply Wp.skip)
  apply round_next
  ·simp -implicitDefEqProofs (maxSteps := 2000000) (disch := first | exact tt_rfl rfl | omega | (simp only [go_sem] <;> omega) | fail) only [go_sem, norm_eq, Ok.some]; with_reducible rfl
  exact ⟨h', by simp, trivial⟩
 ·obtain rfl : i = n := by omega
  clear hstep hnl hpl;generalize natsV (List.replicate i 1) = L at *;repeat (first | apply Wp.seqA | apply Wp.skipS | apply Wp.blockS | ((first | apply Wp.regS | apply Wp.condV | apply Wp.reg | apply Wp.condW | apply fin_ret); simp -implicitDefEqProofs (maxSteps := 2000000) (disch := first | exact tt_rfl rfl | omega | (simp only [go_sem] <;> omega) | fail) only [go_sem, h', Int.ofNat_lt, n1, P1, t1] <;> try with_reducible rfl) | apply Wp.block | apply Wp.exitS | apply Wp.retS | apply Wp.exit | apply Wp.ret | apply Wp.skip)
theorem pubCopyN_ok (d : DesN) (h : d.rows.length ≤ 1000) : lim F 14 [.agg [iv (d.hk : Int), .list 1 (natsV d.rows)]] = some (.agg [iv (d.hk : Int), .own 1 (natsV d.rows)], []) := by
 have hln : (natsV d.rows).length = d.rows.length := by simp
 have htk : (natsV d.rows).take d.rows.length = natsV d.rows := List.take_of_length_le (by simp)
 generalize natsV d.rows = ps at *;refine lim_by (fn := a14) (k := 1) (res := [.cell 2 2 true]) rfl rfl rfl (by simp -implicitDefEqProofs (maxSteps := 2000000) (disch := first | exact tt_rfl rfl | omega | (simp only [go_sem] <;> omega) | fail) only [go_sem]) ?_
 try delta mvA
 try delta opA
 try delta tA
 simp -implicitDefEqProofs (maxSteps := 2000000) (disch := first | exact tt_rfl rfl | omega | (simp only [go_sem] <;> omega) | fail) only [go_sem]
 repeat (first | apply Wp.seqA | apply Wp.skipS | apply Wp.blockS | ((first | apply Wp.regS | apply Wp.condV | apply Wp.reg | apply Wp.condW | apply fin_ret); simp -implicitDefEqProofs (maxSteps := 2000000) (disch := first | exact tt_rfl rfl | omega | (simp only [go_sem] <;> omega) | fail) only [go_sem, hln, htk] <;> try with_reducible rfl) | apply Wp.block | apply Wp.exitS | apply Wp.retS | apply Wp.exit | apply Wp.ret | apply Wp.skip)
def turnN (d : DesN) (k : Nat) : BeltN := ⟨d.hk, d.rows.zipIdx.map fun p => ⟨p.2, p.1, decide (p.2 < k)⟩⟩
def backsN (d : DesN) : BeltN := ⟨d.hk, (punchN d).cards.reverse⟩
end Go.Abs
