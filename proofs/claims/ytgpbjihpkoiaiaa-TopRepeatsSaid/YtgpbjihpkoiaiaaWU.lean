/-
 The tops: take-ups in bytes, and copies of them. No condition beyond those that each theorem names.
-/
import Derived.Test.YtgpbjihpkoiaiaaG2
import Derived.Test.YtgpbjihpkoiaiaaU1
import Derived.Test.YtgpbjihpkoiaiaaFlat
set_option linter.all false
namespace Go.Abs
set_option maxRecDepth 10000
set_option maxHeartbeats 2000000
open Go.Abs.Beam (TakeA PairT checkT nT dT)
theorem tmod_nat (a b : Nat) : Int.tmod (a : Int) (b : Int) = ((a % b : Nat) : Int) := by rw [Int.tmod_eq_emod_of_nonneg (Int.natCast_nonneg _)]; rfl
def pubT (a b c d : Nat) : TakeA := ⟨20 + (a % 81 : Nat), 1 + (b % 5 : Nat), [⟨10 + (c % 91 : Nat), 10 + (d % 91 : Nat)⟩], 100000 + 1000 * (a : Int)⟩
theorem pubT_ok (a b c d : Nat) (ha : a < 256) : checkT (pubT a b c d) = 0 := by
 unfold checkT;rw [if_neg (by simp [pubT]), if_pos]
 refine ⟨⟨by simp only [pubT]; omega, by simp only [pubT]; omega, by simp only [pubT]; omega⟩, fun p hp => ?_⟩
 rw [List.mem_singleton.1 hp];exact ⟨by simp only; omega, by simp only; omega⟩
theorem pubTake_ok (a b c d : Nat) (ha : a < 256) (hb : b < 256) (hc : c < 256) (hd : d < 256) : lim F 28 [.agg [.int .u8 (a : Int), .int .u8 (b : Int), .int .u8 (c : Int), .int .u8 (d : Int)]] = some (.agg [iv (pubT a b c d).rat, iv (pubT a b c d).step, .own 2 ((pubT a b c d).pairs.map PairT.av), iv (pubT a b c d).round], []) := by
 have e0 := tmod_nat a 81;have e1 := tmod_nat b 5;have e2 := tmod_nat c 91;have e3 := tmod_nat d 91;rw [show ((81 : Nat) : Int) = 81 from rfl] at e0
 rw [show ((5 : Nat) : Int) = 5 from rfl] at e1
 rw [show ((91 : Nat) : Int) = 91 from rfl] at e2 e3
 unfold pubT;refine lim_by (fn := a28) (k := 1) (res := [.cell 2 4 true]) rfl rfl rfl (by simp -implicitDefEqProofs (maxSteps := 2000000) (disch := first | exact tt_rfl rfl | omega | (simp only [go_sem] <;> omega) | fail) only [go_sem]) ?_
 try delta mvA
 try delta opA
 try delta tA
 simp -implicitDefEqProofs (maxSteps := 2000000) (disch := first | exact tt_rfl rfl | omega | (simp only [go_sem] <;> omega) | fail) only [go_sem]
 repeat (first | apply Wp.seqA | apply Wp.skipS | apply Wp.blockS | ((first | apply Wp.regS | apply Wp.condV | apply Wp.reg | apply Wp.condW | apply fin_ret); simp -implicitDefEqProofs (maxSteps := 2000000) (disch := first | exact tt_rfl rfl | omega | (simp only [go_sem] <;> omega) | fail) only [go_sem, e0, e1, e2, e3, PairT.av.eq_1] <;> try with_reducible rfl) | apply Wp.block | apply Wp.exitS | apply Wp.retS | apply Wp.exit | apply Wp.ret | apply Wp.skip)
theorem pubGear_ok (t : TakeA) (hl : t.pairs.length ≤ 1000) : lim F 35 [t.av] = some (.agg [iv t.rat, iv t.step, .own 2 (t.pairs.map PairT.av), iv t.round], []) := by
 have hln : (t.pairs.map PairT.av).length = t.pairs.length := by simp
 have htk : (t.pairs.map PairT.av).take t.pairs.length = t.pairs.map PairT.av := List.take_of_length_le (by simp)
 unfold TakeA.av;generalize t.pairs.map PairT.av = ps at *;refine lim_by (fn := a35) (k := 1) (res := [.cell 2 4 true]) rfl rfl rfl (by simp -implicitDefEqProofs (maxSteps := 2000000) (disch := first | exact tt_rfl rfl | omega | (simp only [go_sem] <;> omega) | fail) only [go_sem]) ?_
 try delta mvA
 try delta opA
 try delta tA
 simp -implicitDefEqProofs (maxSteps := 2000000) (disch := first | exact tt_rfl rfl | omega | (simp only [go_sem] <;> omega) | fail) only [go_sem]
 repeat (first | apply Wp.seqA | apply Wp.skipS | apply Wp.blockS | ((first | apply Wp.regS | apply Wp.condV | apply Wp.reg | apply Wp.condW | apply fin_ret); simp -implicitDefEqProofs (maxSteps := 2000000) (disch := first | exact tt_rfl rfl | omega | (simp only [go_sem] <;> omega) | fail) only [go_sem, hln, htk] <;> try with_reducible rfl) | apply Wp.block | apply Wp.exitS | apply Wp.retS | apply Wp.exit | apply Wp.ret | apply Wp.skip)
theorem pubCopy_ok (d : DesN) (h : d.rows.length ≤ 1000) : lim F 30 [.agg [iv (d.hk : Int), .list 1 (natsV d.rows)]] = some (.agg [iv (d.hk : Int), .own 1 (natsV d.rows)], []) := by
 have hln : (natsV d.rows).length = d.rows.length := by simp
 have htk : (natsV d.rows).take d.rows.length = natsV d.rows := List.take_of_length_le (by simp)
 generalize natsV d.rows = ps at *;refine lim_by (fn := a30) (k := 1) (res := [.cell 2 2 true]) rfl rfl rfl (by simp -implicitDefEqProofs (maxSteps := 2000000) (disch := first | exact tt_rfl rfl | omega | (simp only [go_sem] <;> omega) | fail) only [go_sem]) ?_
 try delta mvA
 try delta opA
 try delta tA
 simp -implicitDefEqProofs (maxSteps := 2000000) (disch := first | exact tt_rfl rfl | omega | (simp only [go_sem] <;> omega) | fail) only [go_sem]
 repeat (first | apply Wp.seqA | apply Wp.skipS | apply Wp.blockS | ((first | apply Wp.regS | apply Wp.condV | apply Wp.reg | apply Wp.condW | apply fin_ret); simp -implicitDefEqProofs (maxSteps := 2000000) (disch := first | exact tt_rfl rfl | omega | (simp only [go_sem] <;> omega) | fail) only [go_sem, hln, htk] <;> try with_reducible rfl) | apply Wp.block | apply Wp.exitS | apply Wp.retS | apply Wp.exit | apply Wp.ret | apply Wp.skip)
end Go.Abs
