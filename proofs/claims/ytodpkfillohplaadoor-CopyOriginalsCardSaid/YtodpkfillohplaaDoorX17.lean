/-
 Chapter 12: a set with all holes, and how many gaps there are. No condition beyond those that each theorem names.
-/
import Derived.Test.YtodpkfillohplaaDoorX16
set_option linter.all false
namespace Go.Abs
set_option maxRecDepth 10000
set_option maxHeartbeats 4000000

def fullN (hk n : Nat) : List Nat := List.replicate n (2 ^ hk - 1)
theorem full_ok (hk n : Nat) (t : Bool) (h24 : hk ≤ 24) (h1 : 1 ≤ n) (hn : n ≤ 60) : lim F 70 [.agg [iv (hk : Int), .bool t], iv (n : Int)] = some (.own 1 (natsV (fullN hk n)), []) := by
 have hR := Repeat_one (2 ^ hk - 1) n h1 hn
 have e : natsV (fullN hk n) = List.replicate n (iv ((2 ^ hk - 1 : Nat) : Int)) := by unfold natsV fullN; rw [List.map_replicate]
 have e1 : ((2 ^ hk - 1 : Nat) : Int) = ((2 ^ hk : Nat) : Int) - 1 := by
  have : 0 < 2 ^ hk := Nat.pow_pos (by omega)
  omega
 rw [e1] at hR e
 rw [e]
 have hA := all_ok hk
 refine lim_by (fn := a70) (k := 2) (res := [.tmp 4]) rfl rfl rfl (by simp -implicitDefEqProofs (maxSteps := 2000000) (disch := first | exact tt_rfl rfl | omega | (simp only [go_sem] <;> omega) | fail) only [go_sem]) ?_
 try delta mvA
 try delta opA
 try delta tA
 simp -implicitDefEqProofs (maxSteps := 2000000) (disch := first | exact tt_rfl rfl | omega | (simp only [go_sem] <;> omega) | fail) only [go_sem]
 repeat (first | apply Wp.seqA | apply Wp.skipS | apply Wp.blockS | ((first | apply Wp.regS | apply Wp.condV | apply Wp.reg | apply Wp.condW | apply fin_ret); simp -implicitDefEqProofs (maxSteps := 2000000) (disch := first | exact tt_rfl rfl | omega | (simp only [go_sem] <;> omega) | fail) only [go_sem, hA, hR] <;> try with_reducible rfl) | apply Wp.block | apply Wp.exitS | apply Wp.retS | apply Wp.exit | apply Wp.ret | apply Wp.skip)
theorem fullN_len (hk n : Nat) : (fullN hk n).length = n := by simp [fullN]
theorem fullN_at (hk n i : Nat) (h : i < n) : (fullN hk n).getD i 0 = 2 ^ hk - 1 := by simp [fullN, h]
theorem fullN_lt (hk n : Nat) : ∀ x ∈ fullN hk n, x < 2 ^ hk := fun x hx => by
 have := List.eq_of_mem_replicate hx
 have : 0 < 2 ^ hk := Nat.pow_pos (by omega)
 omega
/-- how many points are no holes -/
def gapsL (hk n : Nat) (j : List Nat) : Nat := lostN (fullN hk n) j n
theorem gaps_ok (hk n : Nat) (t : Bool) (j : List Nat) (h24 : hk ≤ 24) (h1 : 1 ≤ n) (hn : n ≤ 60) (hj : j.length = n) (hlt : ∀ x ∈ j, x < 2 ^ hk) : lim F 72 [.agg [iv (hk : Int), .bool t], .list 1 (natsV j)] = some (iv ((gapsL hk n j : Nat) : Int), []) := by
 have hF := full_ok hk n t h24 h1 hn
 have hL := lost_ok (fullN hk n) j n (fullN_len hk n) hj (by omega) (fun x hx => up24 (fullN_lt hk n x hx) h24) (fun x hx => up24 (hlt x hx) h24)
 have hs : subB (fullN hk n) j n = true := by
  unfold subB
  refine List.all_eq_true.2 fun i hi => decide_eq_true ?_
  rw [List.mem_range] at hi
  rw [subN_zero]
  intro q hq
  unfold atR at hq ⊢
  rw [fullN_at hk n i hi, Nat.testBit_two_pow_sub_one]
  refine decide_eq_true ?_
  apply Classical.byContradiction
  intro hc
  have hlt' : j.getD i 0 < 2 ^ hk := by
   rw [rows_get (by omega)]
   exact hlt _ (List.getElem_mem _)
  rw [Nat.testBit_lt_two_pow (Nat.lt_of_lt_of_le hlt' (Nat.pow_le_pow_right (by omega) (by omega)))] at hq
  cases hq
 rw [hs] at hL
 simp only [if_true] at hL
 have n1 : (natsV j).length = n := by simp [hj]
 have n2 : (natsV (fullN hk n)).length = n := by simp [fullN_len]
 have t2 : (natsV (fullN hk n)).take n = natsV (fullN hk n) := List.take_of_length_le (by omega)
 change lim F _ _ = some (.tuple [iv ((gapsL hk n j : Nat) : Int), _], []) at hL
 unfold listV at hL
 have P2 := nats_plain (fullN hk n)
 generalize gapsL hk n j = g at *
 generalize natsV (fullN hk n) = fr at *
 generalize natsV j = jr at *
 refine lim_by (fn := a72) (k := 2) (res := [.tmp 4]) rfl rfl rfl (by simp -implicitDefEqProofs (maxSteps := 2000000) (disch := first | exact tt_rfl rfl | omega | (simp only [go_sem] <;> omega) | fail) only [go_sem]) ?_
 try delta mvA
 try delta opA
 try delta tA
 simp -implicitDefEqProofs (maxSteps := 2000000) (disch := first | exact tt_rfl rfl | omega | (simp only [go_sem] <;> omega) | fail) only [go_sem]
 repeat (first | apply Wp.seqA | apply Wp.skipS | apply Wp.blockS | ((first | apply Wp.regS | apply Wp.condV | apply Wp.reg | apply Wp.condW | apply fin_ret); simp -implicitDefEqProofs (maxSteps := 2000000) (disch := first | exact tt_rfl rfl | omega | (simp only [go_sem] <;> omega) | fail) only [go_sem, hF, hL, n1, n2, t2, P2] <;> try with_reducible rfl) | apply Wp.block | apply Wp.exitS | apply Wp.retS | apply Wp.exit | apply Wp.ret | apply Wp.skip)
theorem gapsL_le (hk n : Nat) (j : List Nat) : gapsL hk n j ≤ 24 * n := lostT_le _ _ n
end Go.Abs
