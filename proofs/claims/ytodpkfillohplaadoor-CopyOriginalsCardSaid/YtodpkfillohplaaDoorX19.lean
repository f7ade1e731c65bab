/-
 Chapter 12: what the original can be, by the program; how much room there is, by the document. No condition beyond those that each theorem names.
-/
import Derived.Test.YtodpkfillohplaaDoorX18
set_option linter.all false
namespace Go.Abs
set_option maxRecDepth 10000
set_option maxHeartbeats 4000000

theorem both_ok (t : Bool) (hk n : Nat) (h24 : hk ≤ 24) (h1 : 1 ≤ n) (hn : n ≤ 60) (a b : List Nat) (ha : a.length = n) (hb : b.length = n) (la : ∀ x ∈ a, x < 2 ^ hk) (lb : ∀ x ∈ b, x < 2 ^ hk) : lim F 71 [.agg [iv (hk : Int), .bool t], .list 1 (natsV a), .list 1 (natsV b)] = some (.tuple [.agg [iv (hk : Int), .own 1 (natsV (turnL t hk (if t then b else a)))], .agg [iv (hk : Int), .own 1 (natsV (turnL t hk (if t then a else b)))]], []) := by
 have hA := design_ok t hk h24 a (by omega) (by omega) la
 have hB := design_ok t hk h24 b (by omega) (by omega) lb
 have n1 : (natsV (turnL t hk a)).length = n := by simp [ha]
 have n2 : (natsV (turnL t hk b)).length = n := by simp [hb]
 have P1 := nats_plain (turnL t hk a)
 have P2 := nats_plain (turnL t hk b)
 have t1 : (natsV (turnL t hk a)).take n = natsV (turnL t hk a) := List.take_of_length_le (by omega)
 have t2 : (natsV (turnL t hk b)).take n = natsV (turnL t hk b) := List.take_of_length_le (by omega)
 have e1 : natsV (turnL t hk (if t then b else a)) = if t then natsV (turnL t hk b) else natsV (turnL t hk a) := by cases t <;> rfl
 have e2 : natsV (turnL t hk (if t then a else b)) = if t then natsV (turnL t hk a) else natsV (turnL t hk b) := by cases t <;> rfl
 rw [e1, e2]
 generalize natsV (turnL t hk a) = ta at *
 generalize natsV (turnL t hk b) = tb at *
 generalize natsV a = va at *
 generalize natsV b = vb at *
 cases t
 ·refine lim_by (fn := a71) (k := 3) (res := [.cell 6 2 true, .cell 7 2 true]) rfl rfl rfl (by simp -implicitDefEqProofs (maxSteps := 2000000) (disch := first | exact tt_rfl rfl | omega | (simp only [go_sem] <;> omega) | fail) only [go_sem]) ?_
  try delta mvA
  try delta opA
  try delta tA
  simp -implicitDefEqProofs (maxSteps := 2000000) (disch := first | exact tt_rfl rfl | omega | (simp only [go_sem] <;> omega) | fail) only [go_sem]
  repeat (first | apply Wp.seqA | apply Wp.skipS | apply Wp.blockS | ((first | apply Wp.regS | apply Wp.condV | apply Wp.reg | apply Wp.condW | apply fin_ret); simp -implicitDefEqProofs (maxSteps := 2000000) (disch := first | exact tt_rfl rfl | omega | (simp only [go_sem] <;> omega) | fail) only [go_sem, hA, hB, n1, n2, P1, P2, t1, t2, if_true, if_false, Bool.false_eq_true] <;> try with_reducible rfl) | apply Wp.block | apply Wp.exitS | apply Wp.retS | apply Wp.exit | apply Wp.ret | apply Wp.skip)
 ·refine lim_by (fn := a71) (k := 3) (res := [.cell 6 2 true, .cell 7 2 true]) rfl rfl rfl (by simp -implicitDefEqProofs (maxSteps := 2000000) (disch := first | exact tt_rfl rfl | omega | (simp only [go_sem] <;> omega) | fail) only [go_sem]) ?_
  try delta mvA
  try delta opA
  try delta tA
  simp -implicitDefEqProofs (maxSteps := 2000000) (disch := first | exact tt_rfl rfl | omega | (simp only [go_sem] <;> omega) | fail) only [go_sem]
  repeat (first | apply Wp.seqA | apply Wp.skipS | apply Wp.blockS | ((first | apply Wp.regS | apply Wp.condV | apply Wp.reg | apply Wp.condW | apply fin_ret); simp -implicitDefEqProofs (maxSteps := 2000000) (disch := first | exact tt_rfl rfl | omega | (simp only [go_sem] <;> omega) | fail) only [go_sem, hA, hB, n1, n2, P1, P2, t1, t2, if_true, if_false, Bool.false_eq_true] <;> try with_reducible rfl) | apply Wp.block | apply Wp.exitS | apply Wp.retS | apply Wp.exit | apply Wp.ret | apply Wp.skip)
/-- the set with the most holes -/
def hiJ (hk n m : Nat) (j : List Nat) : List Nat := if 0 < m then fullN hk n else j
theorem hiJ_len {hk n m : Nat} {j : List Nat} (h : j.length = n) : (hiJ hk n m j).length = n := by
 unfold hiJ
 split
 ·simp [fullN]
 ·exact h
theorem hiJ_lt {hk n m : Nat} {j : List Nat} (h : ∀ x ∈ j, x < 2 ^ hk) : ∀ x ∈ hiJ hk n m j, x < 2 ^ hk := by
 unfold hiJ
 split
 ·exact fullN_lt hk n
 ·exact h
def sureN (t : Bool) (hk n m : Nat) (j : List Nat) : List Nat := turnL t hk (if t then hiJ hk n m j else j)
def canN (t : Bool) (hk n m : Nat) (j : List Nat) : List Nat := turnL t hk (if t then j else hiJ hk n m j)
theorem Original_ok {l : List DesN} {hk n : Nat} (h : SetsOk l hk n) (t : Bool) (most : Int) (m : Nat) (h0 : 0 ≤ most) (h1 : most ≤ 1000) (hm : moreTo (setsN t hk l) (joinN (setsN t hk l) n) n most l.length = m) : lim F 31 [iv (wayOf t), .list 2 (l.map setV), iv most] = some (.tuple [.agg [iv (hk : Int), .own 1 (natsV (sureN t hk n m (joinN (setsN t hk l) n)))], .agg [iv (hk : Int), .own 1 (natsV (canN t hk n m (joinN (setsN t hk l) n)))], iv 0], []) := by
 obtain ⟨⟨k1, k2⟩, k3, k4⟩ := h.k1
 have hrow := setsN_row (t := t) h
 have hjl : ∀ x ∈ joinN (setsN t hk l) n, x < 2 ^ hk := fun r hr => by
  obtain ⟨q, hq, rfl⟩ := List.mem_map.1 hr
  exact joinAt_lt hrow (List.mem_range.1 hq)
 have hR := room_loop h t most h0 h1
 rw [hm, if_neg (by omega)] at hR
 have hjn : (joinN (setsN t hk l) n).length = n := by simp
 have hsl : ((setsN t hk l).map listV).length = l.length := by simp
 have tS : ((setsN t hk l).map listV).take l.length = (setsN t hk l).map listV := List.take_of_length_le (by omega)
 have hF := full_ok hk n t k2 k3 k4
 generalize joinN (setsN t hk l) n = j at *
 have hB := both_ok t hk n k2 k3 k4 j (hiJ hk n m j) hjn (hiJ_len hjn) hjl (hiJ_lt hjl)
 change lim F _ _ = some (.tuple [.agg [_, .own 1 (natsV (sureN t hk n m j))], .agg [_, .own 1 (natsV (canN t hk n m j))]], []) at hB
 have n2 : (natsV j).length = n := by simp [hjn]
 have t2 : (natsV j).take n = natsV j := List.take_of_length_le (by omega)
 have P2 := nats_plain j
 have n3 : (natsV (sureN t hk n m j)).length = n := by unfold sureN; split <;> simp [hjn, hiJ_len]
 have n4 : (natsV (canN t hk n m j)).length = n := by unfold canN; split <;> simp [hjn, hiJ_len]
 have t3 : (natsV (sureN t hk n m j)).take n = natsV (sureN t hk n m j) := List.take_of_length_le (by omega)
 have t4 : (natsV (canN t hk n m j)).take n = natsV (canN t hk n m j) := List.take_of_length_le (by omega)
 have P3 := nats_plain (sureN t hk n m j)
 have P4 := nats_plain (canN t hk n m j)
 have P5 := nats_plain (fullN hk n)
 have n5 : (natsV (fullN hk n)).length = n := by simp [fullN]
 have t5 : (natsV (fullN hk n)).take n = natsV (fullN hk n) := List.take_of_length_le (by omega)
 generalize natsV (sureN t hk n m j) = sv at *
 generalize natsV (canN t hk n m j) = cv at *
 unfold openV at hR
 generalize (setsN t hk l).map listV = sr at *
 generalize l.map setV = es at *
 unfold hiJ at hB
 by_cases h' : 0 < m
 ·rw [if_pos h'] at hB
  generalize natsV (fullN hk n) = fv at *
  generalize natsV j = jv at *
  refine lim_by (fn := a31) (k := 3) (res := [.cell 6 2 true, .cell 7 2 true, .tmp 8]) rfl rfl rfl (by simp -implicitDefEqProofs (maxSteps := 2000000) (disch := first | exact tt_rfl rfl | omega | (simp only [go_sem] <;> omega) | fail) only [go_sem]) ?_
  try delta mvA
  try delta opA
  try delta tA
  simp -implicitDefEqProofs (maxSteps := 2000000) (disch := first | exact tt_rfl rfl | omega | (simp only [go_sem] <;> omega) | fail) only [go_sem]
  repeat (first | apply Wp.seqA | apply Wp.skipS | apply Wp.blockS | ((first | apply Wp.regS | apply Wp.condV | apply Wp.reg | apply Wp.condW | apply fin_ret); simp -implicitDefEqProofs (maxSteps := 2000000) (disch := first | exact tt_rfl rfl | omega | (simp only [go_sem] <;> omega) | fail) only [go_sem, ite_self, hR, hF, hB, n2, t2, P2, n3, n4, t3, t4, P3, P4, P5, n5, t5, hsl, tS, h', Int.natCast_pos] <;> try with_reducible rfl) | apply Wp.block | apply Wp.exitS | apply Wp.retS | apply Wp.exit | apply Wp.ret | apply Wp.skip)
 ·rw [if_neg h'] at hB
  clear hF n5 t5 P5
  generalize natsV j = jv at *
  refine lim_by (fn := a31) (k := 3) (res := [.cell 6 2 true, .cell 7 2 true, .tmp 8]) rfl rfl rfl (by simp -implicitDefEqProofs (maxSteps := 2000000) (disch := first | exact tt_rfl rfl | omega | (simp only [go_sem] <;> omega) | fail) only [go_sem]) ?_
  try delta mvA
  try delta opA
  try delta tA
  simp -implicitDefEqProofs (maxSteps := 2000000) (disch := first | exact tt_rfl rfl | omega | (simp only [go_sem] <;> omega) | fail) only [go_sem]
  repeat (first | apply Wp.seqA | apply Wp.skipS | apply Wp.blockS | ((first | apply Wp.regS | apply Wp.condV | apply Wp.reg | apply Wp.condW | apply fin_ret); simp -implicitDefEqProofs (maxSteps := 2000000) (disch := first | exact tt_rfl rfl | omega | (simp only [go_sem] <;> omega) | fail) only [go_sem, ite_self, hR, hB, n2, t2, P2, n3, n4, t3, t4, P3, P4, hsl, tS, h', Int.natCast_pos] <;> try with_reducible rfl) | apply Wp.block | apply Wp.exitS | apply Wp.retS | apply Wp.exit | apply Wp.ret | apply Wp.skip)
theorem Original_bad (l : List DesA) (hl : l.length ≤ 1000) (hr : ∀ d ∈ l, d.rows.length ≤ 1000000) (w most : Int) (he : wayE w l ≠ 0) : lim F 31 [iv w, .list 2 (l.map DesA.av), iv most] = some (.tuple [.agg [iv 0, .own 1 []], .agg [iv 0, .own 1 []], iv (wayE w l)], []) := by
 have hO := room_bad l hl hr w most he
 generalize l.map DesA.av = es at *
 generalize wayE w l = e at *
 refine lim_by (fn := a31) (k := 3) (res := [.cell 6 2 true, .cell 7 2 true, .tmp 8]) rfl rfl rfl (by simp -implicitDefEqProofs (maxSteps := 2000000) (disch := first | exact tt_rfl rfl | omega | (simp only [go_sem] <;> omega) | fail) only [go_sem]) ?_
 try delta mvA
 try delta opA
 try delta tA
 simp -implicitDefEqProofs (maxSteps := 2000000) (disch := first | exact tt_rfl rfl | omega | (simp only [go_sem] <;> omega) | fail) only [go_sem]
 repeat (first | apply Wp.seqA | apply Wp.skipS | apply Wp.blockS | ((first | apply Wp.regS | apply Wp.condV | apply Wp.reg | apply Wp.condW | apply fin_ret); simp -implicitDefEqProofs (maxSteps := 2000000) (disch := first | exact tt_rfl rfl | omega | (simp only [go_sem] <;> omega) | fail) only [go_sem, hO, he] <;> try with_reducible rfl) | apply Wp.block | apply Wp.exitS | apply Wp.retS | apply Wp.exit | apply Wp.ret | apply Wp.skip)
theorem Count_bad (l : List DesA) (hl : l.length ≤ 1000) (hr : ∀ d ∈ l, d.rows.length ≤ 1000000) (w most : Int) (he : wayE w l ≠ 0) : lim F 32 [iv w, .list 2 (l.map DesA.av), iv most] = some (.tuple [iv 0, iv (wayE w l)], []) := by
 have hO := room_bad l hl hr w most he
 generalize l.map DesA.av = es at *
 generalize wayE w l = e at *
 refine lim_by (fn := a32) (k := 3) (res := [.tmp 6, .tmp 7]) rfl rfl rfl (by simp -implicitDefEqProofs (maxSteps := 2000000) (disch := first | exact tt_rfl rfl | omega | (simp only [go_sem] <;> omega) | fail) only [go_sem]) ?_
 try delta mvA
 try delta opA
 try delta tA
 simp -implicitDefEqProofs (maxSteps := 2000000) (disch := first | exact tt_rfl rfl | omega | (simp only [go_sem] <;> omega) | fail) only [go_sem]
 repeat (first | apply Wp.seqA | apply Wp.skipS | apply Wp.blockS | ((first | apply Wp.regS | apply Wp.condV | apply Wp.reg | apply Wp.condW | apply fin_ret); simp -implicitDefEqProofs (maxSteps := 2000000) (disch := first | exact tt_rfl rfl | omega | (simp only [go_sem] <;> omega) | fail) only [go_sem, hO, he] <;> try with_reducible rfl) | apply Wp.block | apply Wp.exitS | apply Wp.retS | apply Wp.exit | apply Wp.ret | apply Wp.skip)
/-- no room, or a number that cannot be -/
theorem Original_no {l : List DesN} {hk n : Nat} (h : SetsOk l hk n) (t : Bool) (most : Int) : (¬ (0 ≤ most ∧ most ≤ 1000) → lim F 31 [iv (wayOf t), .list 2 (l.map setV), iv most] = some (.tuple [.agg [iv 0, .own 1 []], .agg [iv 0, .own 1 []], iv 3], [])) ∧
  (0 ≤ most ∧ most ≤ 1000 → moreTo (setsN t hk l) (joinN (setsN t hk l) n) n most l.length < 0 → lim F 31 [iv (wayOf t), .list 2 (l.map setV), iv most] = some (.tuple [.agg [iv 0, .own 1 []], .agg [iv 0, .own 1 []], iv 9], [])) := by
 have hsl : ((setsN t hk l).map listV).length = l.length := by simp
 have tS : ((setsN t hk l).map listV).take l.length = (setsN t hk l).map listV := List.take_of_length_le (by omega)
 constructor
 ·intro hm
  have hR := room_range h t most hm
  unfold openV at hR
  generalize (setsN t hk l).map listV = sr at *
  generalize l.map setV = es at *
  refine lim_by (fn := a31) (k := 3) (res := [.cell 6 2 true, .cell 7 2 true, .tmp 8]) rfl rfl rfl (by simp -implicitDefEqProofs (maxSteps := 2000000) (disch := first | exact tt_rfl rfl | omega | (simp only [go_sem] <;> omega) | fail) only [go_sem]) ?_
  try delta mvA
  try delta opA
  try delta tA
  simp -implicitDefEqProofs (maxSteps := 2000000) (disch := first | exact tt_rfl rfl | omega | (simp only [go_sem] <;> omega) | fail) only [go_sem]
  repeat (first | apply Wp.seqA | apply Wp.skipS | apply Wp.blockS | ((first | apply Wp.regS | apply Wp.condV | apply Wp.reg | apply Wp.condW | apply fin_ret); simp -implicitDefEqProofs (maxSteps := 2000000) (disch := first | exact tt_rfl rfl | omega | (simp only [go_sem] <;> omega) | fail) only [go_sem, ite_self, hR, hsl, tS] <;> try with_reducible rfl) | apply Wp.block | apply Wp.exitS | apply Wp.retS | apply Wp.exit | apply Wp.ret | apply Wp.skip)
 ·intro hm hneg
  have hR := room_loop h t most hm.1 hm.2
  rw [if_pos hneg] at hR
  unfold openV at hR
  generalize (setsN t hk l).map listV = sr at *
  generalize l.map setV = es at *
  refine lim_by (fn := a31) (k := 3) (res := [.cell 6 2 true, .cell 7 2 true, .tmp 8]) rfl rfl rfl (by simp -implicitDefEqProofs (maxSteps := 2000000) (disch := first | exact tt_rfl rfl | omega | (simp only [go_sem] <;> omega) | fail) only [go_sem]) ?_
  try delta mvA
  try delta opA
  try delta tA
  simp -implicitDefEqProofs (maxSteps := 2000000) (disch := first | exact tt_rfl rfl | omega | (simp only [go_sem] <;> omega) | fail) only [go_sem]
  repeat (first | apply Wp.seqA | apply Wp.skipS | apply Wp.blockS | ((first | apply Wp.regS | apply Wp.condV | apply Wp.reg | apply Wp.condW | apply fin_ret); simp -implicitDefEqProofs (maxSteps := 2000000) (disch := first | exact tt_rfl rfl | omega | (simp only [go_sem] <;> omega) | fail) only [go_sem, ite_self, hR, hsl, tS] <;> try with_reducible rfl) | apply Wp.block | apply Wp.exitS | apply Wp.retS | apply Wp.exit | apply Wp.ret | apply Wp.skip)
theorem Count_no {l : List DesN} {hk n : Nat} (h : SetsOk l hk n) (t : Bool) (most : Int) : (¬ (0 ≤ most ∧ most ≤ 1000) → lim F 32 [iv (wayOf t), .list 2 (l.map setV), iv most] = some (.tuple [iv 0, iv 3], [])) ∧
  (0 ≤ most ∧ most ≤ 1000 → moreTo (setsN t hk l) (joinN (setsN t hk l) n) n most l.length < 0 → lim F 32 [iv (wayOf t), .list 2 (l.map setV), iv most] = some (.tuple [iv 0, iv 9], [])) := by
 have hsl : ((setsN t hk l).map listV).length = l.length := by simp
 have tS : ((setsN t hk l).map listV).take l.length = (setsN t hk l).map listV := List.take_of_length_le (by omega)
 constructor
 ·intro hm
  have hR := room_range h t most hm
  unfold openV at hR
  generalize (setsN t hk l).map listV = sr at *
  generalize l.map setV = es at *
  refine lim_by (fn := a32) (k := 3) (res := [.tmp 6, .tmp 7]) rfl rfl rfl (by simp -implicitDefEqProofs (maxSteps := 2000000) (disch := first | exact tt_rfl rfl | omega | (simp only [go_sem] <;> omega) | fail) only [go_sem]) ?_
  try delta mvA
  try delta opA
  try delta tA
  simp -implicitDefEqProofs (maxSteps := 2000000) (disch := first | exact tt_rfl rfl | omega | (simp only [go_sem] <;> omega) | fail) only [go_sem]
  repeat (first | apply Wp.seqA | apply Wp.skipS | apply Wp.blockS | ((first | apply Wp.regS | apply Wp.condV | apply Wp.reg | apply Wp.condW | apply fin_ret); simp -implicitDefEqProofs (maxSteps := 2000000) (disch := first | exact tt_rfl rfl | omega | (simp only [go_sem] <;> omega) | fail) only [go_sem, ite_self, hR, hsl, tS] <;> try with_reducible rfl) | apply Wp.block | apply Wp.exitS | apply Wp.retS | apply Wp.exit | apply Wp.ret | apply Wp.skip)
 ·intro hm hneg
  have hR := room_loop h t most hm.1 hm.2
  rw [if_pos hneg] at hR
  unfold openV at hR
  generalize (setsN t hk l).map listV = sr at *
  generalize l.map setV = es at *
  refine lim_by (fn := a32) (k := 3) (res := [.tmp 6, .tmp 7]) rfl rfl rfl (by simp -implicitDefEqProofs (maxSteps := 2000000) (disch := first | exact tt_rfl rfl | omega | (simp only [go_sem] <;> omega) | fail) only [go_sem]) ?_
  try delta mvA
  try delta opA
  try delta tA
  simp -implicitDefEqProofs (maxSteps := 2000000) (disch := first | exact tt_rfl rfl | omega | (simp only [go_sem] <;> omega) | fail) only [go_sem]
  repeat (first | apply Wp.seqA | apply Wp.skipS | apply Wp.blockS | ((first | apply Wp.regS | apply Wp.condV | apply Wp.reg | apply Wp.condW | apply fin_ret); simp -implicitDefEqProofs (maxSteps := 2000000) (disch := first | exact tt_rfl rfl | omega | (simp only [go_sem] <;> omega) | fail) only [go_sem, ite_self, hR, hsl, tS] <;> try with_reducible rfl) | apply Wp.block | apply Wp.exitS | apply Wp.retS | apply Wp.exit | apply Wp.ret | apply Wp.skip)
end Go.Abs
