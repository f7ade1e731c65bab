/-
 Several texts: X15, X16, X17, X18, X19, X20.
-/
import Derived.Test.YtodpkfillohplaaDoorX11
import Derived.Test.YtodpkfillohplaaDoorY5
set_option linter.all false
namespace Go.Abs
set_option maxRecDepth 10000
set_option maxHeartbeats 4000000
def moreTo (s : List (List Nat)) (j : List Nat) (n : Nat) (most : Int) : Nat → Int
 | 0 => most
 | k + 1 => min (moreTo s j n most k) (most - (lostV j (s.getD k []) n : Nat))
end Go.Abs
set_option linter.all false
namespace Go.Abs
set_option maxRecDepth 10000
set_option maxHeartbeats 4000000
end Go.Abs
set_option linter.all false
namespace Go.Abs
set_option maxRecDepth 10000
set_option maxHeartbeats 4000000
def fullN (hk n : Nat) : List Nat := List.replicate n (2 ^ hk - 1)
theorem fullN_lt (hk n : Nat) : ∀ x ∈ fullN hk n, x < 2 ^ hk := fun x hx => by
 have := List.eq_of_mem_replicate hx;have : 0 < 2 ^ hk := Nat.pow_pos (by omega)
 omega
def gapsL (hk n : Nat) (j : List Nat) : Nat := lostN (fullN hk n) j n
theorem gapsL_le (hk n : Nat) (j : List Nat) : gapsL hk n j ≤ 24 * n := lostT_le _ _ n
end Go.Abs
set_option linter.all false
namespace Go.Abs
set_option maxRecDepth 10000
set_option maxHeartbeats 4000000
def wl (p k m : Nat) : List AV := (List.range (m + 1)).map fun j => iv (((if k < j then wayT (p + 1) j else wayT p j : Nat)) : Int)
theorem list_ext_get {l l' : List AV} (h : l.length = l'.length) (hg : ∀ j, j < l.length → l[j]? = l'[j]?) : l = l' := by
 apply List.ext_getElem? ;intro j;by_cases hj : j < l.length
 ·exact hg j hj
 ·rw [List.getElem?_eq_none (by omega), List.getElem?_eq_none (by omega)]
end Go.Abs
set_option linter.all false
namespace Go.Abs
set_option maxRecDepth 10000
set_option maxHeartbeats 4000000
theorem both_ok (t : Bool) (hk n : Nat) (h24 : hk ≤ 24) (h1 : 1 ≤ n) (hn : n ≤ 60) (a b : List Nat) (ha : a.length = n) (hb : b.length = n) (la : ∀ x ∈ a, x < 2 ^ hk) (lb : ∀ x ∈ b, x < 2 ^ hk) : lim F 71 [.agg [iv (hk : Int), .bool t], .list 1 (natsV a), .list 1 (natsV b)] = some (.tuple [.agg [iv (hk : Int), .own 1 (natsV (turnL t hk (if t then b else a)))], .agg [iv (hk : Int), .own 1 (natsV (turnL t hk (if t then a else b)))]], []) := by
 have hA := design_ok t hk h24 a (by omega) (by omega) la
 have hB := design_ok t hk h24 b (by omega) (by omega) lb
 have n1 : (natsV (turnL t hk a)).length = n := by simp [ha]
 have n2 : (natsV (turnL t hk b)).length = n := by simp [hb]
 have P1 := nats_plain (turnL t hk a);have P2 := nats_plain (turnL t hk b);have t1 : (natsV (turnL t hk a)).take n = natsV (turnL t hk a) := List.take_of_length_le (by omega)
 have t2 : (natsV (turnL t hk b)).take n = natsV (turnL t hk b) := List.take_of_length_le (by omega)
 have e1 : natsV (turnL t hk (if t then b else a)) = if t then natsV (turnL t hk b) else natsV (turnL t hk a) := by cases t <;> rfl
 have e2 : natsV (turnL t hk (if t then a else b)) = if t then natsV (turnL t hk a) else natsV (turnL t hk b) := by cases t <;> rfl
 rw [e1, e2];generalize natsV (turnL t hk a) = ta at *;generalize natsV (turnL t hk b) = tb at *;generalize natsV a = va at *;generalize natsV b = vb at *;cases t
 ·refine lim_by (fn := a71) (k := 3) (res := [.cell 6 2 true, .cell 7 2 true]) rfl rfl rfl (by simp -implicitDefEqProofs (maxSteps := 2000000) (disch := first | exact tt_rfl rfl | omega | (simp only [go_sem] <;> omega) | fail) only [go_sem]) ?_
  try delta mvA
  try delta opA
  try delta tA
  simp -implicitDefEqProofs (maxSteps := 2000000) (disch := first | exact tt_rfl rfl | omega | (simp only [go_sem] <;> omega) | fail) only [go_sem]
  repeat (first | apply Wp.seqA | apply Wp.skipS | apply Wp.blockS | ((first | apply Wp.regS | apply Wp.condV | apply Wp.reg | apply Wp.condW | apply fin_ret); simp -implicitDefEqProofs (maxSteps := 2000000) (disch := first | exact tt_rfl rfl | omega | (simp only [go_sem] <;> omega) | fail) only [go_sem, hA, hB, n1, n2, P1, P2, t1, t2, if_true, if_false, Bool.false_eq_true] <;> try with_reducible rfl) | apply Wp.block | apply Wp.exitS | apply Wp.retS | apply Wp.exit | apply Wp.ret | apply Wp.skip)
 ·refine lim_by (fn := a71) (k := 3) (res := [.cell 6 2 true, .cell 7 2 true]) rfl rfl rfl (by simp -implicitDefEqProofs (maxSteps := 2000000) (disch := first | exact tt_rfl rfl | omega | (simp only [go_sem] <;> omega) | fail) only [go_sem]) ?_
  try delta mvA
  try delta opA
  try delta tA
  simp -implicitDefEqProofs (maxSteps := 2000000) (disch := first | exact tt_rfl rfl | omega | (simp only [go_sem] <;> omega) | fail) only [go_sem]
  repeat (first | apply Wp.seqA | apply Wp.skipS | apply Wp.blockS | ((first | apply Wp.regS | apply Wp.condV | apply Wp.reg | apply Wp.condW | apply fin_ret); simp -implicitDefEqProofs (maxSteps := 2000000) (disch := first | exact tt_rfl rfl | omega | (simp only [go_sem] <;> omega) | fail) only [go_sem, hA, hB, n1, n2, P1, P2, t1, t2, if_true, if_false, Bool.false_eq_true] <;> try with_reducible rfl) | apply Wp.block | apply Wp.exitS | apply Wp.retS | apply Wp.exit | apply Wp.ret | apply Wp.skip)
def hiJ (hk n m : Nat) (j : List Nat) : List Nat := if 0 < m then fullN hk n else j
def sureN (t : Bool) (hk n m : Nat) (j : List Nat) : List Nat := turnL t hk (if t then hiJ hk n m j else j)
def canN (t : Bool) (hk n m : Nat) (j : List Nat) : List Nat := turnL t hk (if t then j else hiJ hk n m j)
end Go.Abs
set_option linter.all false
namespace Go.Abs
set_option maxRecDepth 10000
set_option maxHeartbeats 4000000
def worstT (s : List (List Nat)) (j : List Nat) (n : Nat) : Nat → Nat
 | 0 => 0
 | k + 1 => max (worstT s j n k) (lostV j (s.getD k []) n)
end Go.Abs
