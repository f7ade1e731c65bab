/-
 Chapter 12: originals and copies, by the program and by the document. No condition beyond those that each theorem names.
-/
import Derived.Test.YtodpkfillohplaaDoorX6
import Derived.Test.YtodpkfillohplaaDoorM1
set_option linter.all false
namespace Go.Abs
set_option maxRecDepth 10000
set_option maxHeartbeats 4000000
theorem design_ok (t : Bool) (hk : Nat) (hh : hk ≤ 24) (l : List Nat) (hl : l.length ≤ 1000) (h1 : 1 ≤ l.length) (hlt : ∀ r ∈ l, r < 2 ^ hk) : lim F 62 [.agg [iv (hk : Int), .bool t], .list 1 (natsV l)] = some (.agg [iv (hk : Int), .own 1 (natsV (turnL t hk l))], []) := by
 have h := turn_ok t hk hh l hl h1 hlt;have hpl := nats_plain (turnL t hk l);have htk : (natsV (turnL t hk l)).take l.length = natsV (turnL t hk l) := List.take_of_length_le (by simp)
 have hn : (natsV (turnL t hk l)).length = l.length := by simp
 generalize natsV (turnL t hk l) = L at *;generalize natsV l = es at *;refine lim_by (fn := a62) (k := 2) (res := [.cell 4 2 true]) rfl rfl rfl (by simp -implicitDefEqProofs (maxSteps := 2000000) (disch := first | exact tt_rfl rfl | omega | (simp only [go_sem] <;> omega) | fail) only [go_sem]) ?_
 try delta mvA
 try delta opA
 try delta tA
 simp -implicitDefEqProofs (maxSteps := 2000000) (disch := first | exact tt_rfl rfl | omega | (simp only [go_sem] <;> omega) | fail) only [go_sem]
 repeat (first | apply Wp.seqA | apply Wp.skipS | apply Wp.blockS | ((first | apply Wp.regS | apply Wp.condV | apply Wp.reg | apply Wp.condW | apply fin_ret); simp -implicitDefEqProofs (maxSteps := 2000000) (disch := first | exact tt_rfl rfl | omega | (simp only [go_sem] <;> omega) | fail) only [go_sem, h, hpl, htk, hn] <;> try with_reducible rfl) | apply Wp.block | apply Wp.exitS | apply Wp.retS | apply Wp.exit | apply Wp.ret | apply Wp.skip)
def firstN (t : Bool) (hk n : Nat) (l : List DesN) : DesN := ⟨hk, turnL t hk (joinN (setsN t hk l) n)⟩
theorem up24 {x hk : Nat} (h : x < 2 ^ hk) (h' : hk ≤ 24) : x < 2 ^ 24 := Nat.lt_of_lt_of_le h (Nat.pow_le_pow_right (by omega) h')
theorem First_ok {l : List DesN} {hk n : Nat} (h : SetsOk l hk n) (t : Bool) : lim F 17 [iv (wayOf t), .list 2 (l.map setV)] = some (.tuple [.agg [iv (hk : Int), .own 1 (natsV (firstN t hk n l).rows)], iv 0], []) := by
 obtain ⟨⟨k1, k2⟩, k3, k4⟩ := h.k1;have hO := open_ok h t;have hrow := setsN_row (t := t) h;have hJ := join_ok (setsN t hk l) n (by simp; exact h.l1) (by have := h.l10; simp; omega) (by omega) (fun r hr => ⟨(hrow r hr).1, fun x hx => up24 ((hrow r hr).2 x hx) k2⟩)
 have hD := design_ok t hk k2 (joinN (setsN t hk l) n) (by simp; omega) (by simp; omega) (fun r hr => by
  obtain ⟨q, hq, rfl⟩ := List.mem_map.1 hr;exact joinAt_lt hrow (List.mem_range.1 hq))
 have n1 : ((setsN t hk l).map listV).length = l.length := by simp
 have n2 : (natsV (joinN (setsN t hk l) n)).length = n := by simp
 have n3 : (natsV (firstN t hk n l).rows).length = n := by simp [firstN]
 have P2 := nats_plain (joinN (setsN t hk l) n);have P3 := nats_plain (firstN t hk n l).rows;have t1 : ((setsN t hk l).map listV).take l.length = (setsN t hk l).map listV := List.take_of_length_le (by omega)
 have t2 : (natsV (joinN (setsN t hk l) n)).take n = natsV (joinN (setsN t hk l) n) := List.take_of_length_le (by omega)
 have t3 : (natsV (firstN t hk n l).rows).take n = natsV (firstN t hk n l).rows := List.take_of_length_le (by omega)
 change lim F _ _ = some (.agg [_, .own 1 (natsV (firstN t hk n l).rows)], []) at hD;unfold openV at hO;generalize natsV (firstN t hk n l).rows = fr at *;generalize natsV (joinN (setsN t hk l) n) = jr at *;generalize (setsN t hk l).map listV = sr at *;generalize l.map setV = es at *;refine lim_by (fn := a17) (k := 2) (res := [.cell 4 2 true, .tmp 5]) rfl rfl rfl (by simp -implicitDefEqProofs (maxSteps := 2000000) (disch := first | exact tt_rfl rfl | omega | (simp only [go_sem] <;> omega) | fail) only [go_sem]) ?_
 try delta mvA
 try delta opA
 try delta tA
 simp -implicitDefEqProofs (maxSteps := 2000000) (disch := first | exact tt_rfl rfl | omega | (simp only [go_sem] <;> omega) | fail) only [go_sem]
 repeat (first | apply Wp.seqA | apply Wp.skipS | apply Wp.blockS | ((first | apply Wp.regS | apply Wp.condV | apply Wp.reg | apply Wp.condW | apply fin_ret); simp -implicitDefEqProofs (maxSteps := 2000000) (disch := first | exact tt_rfl rfl | omega | (simp only [go_sem] <;> omega) | fail) only [go_sem, hO, hJ, hD, n1, n2, n3, P2, P3, t1, t2, t3, ite_self] <;> try with_reducible rfl) | apply Wp.block | apply Wp.exitS | apply Wp.retS | apply Wp.exit | apply Wp.ret | apply Wp.skip)
def madeB (t : Bool) (hk n : Nat) (a b : DesN) : Bool := subB (turnL t hk a.rows) (turnL t hk b.rows) n
def madeN (t : Bool) (hk n : Nat) (a b : DesN) : Nat := if madeB t hk n a b then lostN (turnL t hk a.rows) (turnL t hk b.rows) n else 0
def bitOk (x y : Nat) (h : Nat) : Prop := ∀ q, q < h → ¬ (y.testBit q = true ∧ x.testBit q = false)
end Go.Abs
