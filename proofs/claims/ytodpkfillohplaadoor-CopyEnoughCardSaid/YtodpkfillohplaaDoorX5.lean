/-
 Chapter 12: rows that are turned, opened, joined, and what they lost. No condition beyond those that each theorem names.
-/
import Derived.Test.YtodpkfillohplaaDoorX4
set_option linter.all false
namespace Go.Abs
set_option maxRecDepth 10000
set_option maxHeartbeats 4000000
def turnL (t : Bool) (hk : Nat) (l : List Nat) : List Nat := l.map (turnR t hk)
@[simp] theorem turnL_len (t : Bool) (hk : Nat) (l : List Nat) : (turnL t hk l).length = l.length := by simp [turnL]
theorem turnL_at (t : Bool) (hk : Nat) (l : List Nat) {i : Nat} (h : i < l.length) : (turnL t hk l).getD i 0 = turnR t hk (l.getD i 0) := by
 unfold turnL;rw [rows_get (by simpa using h), rows_get h, List.getElem_map]
def turnTo (t : Bool) (hk : Nat) (l : List Nat) (i : Nat) : List AV := (List.range l.length).map fun q => iv ((if q < i then turnR t hk (l.getD q 0) else l.getD q 0 : Nat) : Int)
theorem turnTo_zero (t : Bool) (hk : Nat) (l : List Nat) : turnTo t hk l 0 = natsV l := by
 unfold turnTo natsV;apply List.ext_getElem
 ·simp
 ·intro i h1 h2
  have hi : i < l.length := by simpa using h1
  simp only [List.getElem_map, List.getElem_range, Nat.not_lt_zero, if_false, rows_get hi]
theorem turnTo_end (t : Bool) (hk : Nat) (l : List Nat) : turnTo t hk l l.length = natsV (turnL t hk l) := by
 unfold turnTo natsV turnL;apply List.ext_getElem
 ·simp
 ·intro i h1 h2
  have hi : i < l.length := by simpa using h1
  simp only [List.getElem_map, List.getElem_range, if_pos hi, rows_get hi]
@[simp] theorem turnTo_len (t : Bool) (hk : Nat) (l : List Nat) (i : Nat) : (turnTo t hk l i).length = l.length := by simp [turnTo]
theorem turnTo_at {t : Bool} {hk : Nat} {l : List Nat} {i : Nat} (h : i < l.length) : (turnTo t hk l i)[i]? = some (iv ((l.getD i 0 : Nat) : Int)) := by
 unfold turnTo;rw [List.getElem?_map, List.getElem?_range h];simp
theorem turnTo_set {t : Bool} {hk : Nat} {l : List Nat} {i : Nat} (h : i < l.length) : (turnTo t hk l i).set i (iv ((turnR t hk (l.getD i 0) : Nat) : Int)) = turnTo t hk l (i + 1) := by
 unfold turnTo;apply List.ext_getElem
 ·simp
 ·intro q h1 h2
  rw [List.getElem_set];simp only [List.getElem_map, List.getElem_range];by_cases e : i = q
  ·subst e
   rw [if_pos rfl, if_pos (by omega)]
  ·rw [if_neg e]
   by_cases hq : q < i
   ·rw [if_pos hq, if_pos (by omega)]
   ·rw [if_neg hq, if_neg (by omega)]
theorem turnTo_same {hk : Nat} {l : List Nat} {i : Nat} : turnTo false hk l (i + 1) = turnTo false hk l i := by
 unfold turnTo turnR;simp
theorem Clone_ok (x : AV) (l : List AV) (hl : l.length ≤ 1000000) : lim F 93 [.list 1 (x :: l)] = some (.own 1 (x :: l), []) := by
 refine lim_by (fn := a93) (k := 1) (res := [.tmp 2]) rfl rfl rfl (by simp -implicitDefEqProofs (maxSteps := 2000000) (disch := first | exact tt_rfl rfl | omega | (simp only [go_sem] <;> omega) | fail) only [go_sem]) ?_
 try delta mvA
 try delta opA
 try delta tA
 simp -implicitDefEqProofs (maxSteps := 2000000) (disch := first | exact tt_rfl rfl | omega | (simp only [go_sem] <;> omega) | fail) only [go_sem]
 repeat (first | apply Wp.seqA | apply Wp.skipS | apply Wp.blockS | ((first | apply Wp.regS | apply Wp.condV | apply Wp.reg | apply Wp.condW | apply fin_ret); simp -implicitDefEqProofs (maxSteps := 2000000) (disch := first | exact tt_rfl rfl | omega | (simp only [go_sem] <;> omega) | fail) only [go_sem, List.length_cons, show isNilV false (.list 1 (x :: l)) = some ⟨.bool false, [], []⟩ from rfl] <;> try with_reducible rfl) | apply Wp.block | apply Wp.exitS | apply Wp.retS | apply Wp.exit | apply Wp.ret | apply Wp.skip)
theorem cloneN_ok (l : List Nat) (hl : l.length ≤ 1000) (h1 : 1 ≤ l.length) : lim F 93 [.list 1 (natsV l)] = some (.own 1 (natsV l), []) := by
 cases l with
 | nil => simp at h1
 | cons a r =>
  exact Clone_ok (iv (a : Int)) (r.map fun n : Nat => iv (n : Int)) (by simp at hl ⊢; omega)
theorem turn_ok (t : Bool) (hk : Nat) (hh : hk ≤ 24) (l : List Nat) (hl : l.length ≤ 1000) (h1 : 1 ≤ l.length) (hlt : ∀ r ∈ l, r < 2 ^ hk) : lim F 83 [.agg [iv (hk : Int), .bool t], .list 1 (natsV l)] = some (.own 1 (natsV (turnL t hk l)), []) := by
 have hc := cloneN_ok l hl h1;have ha := all_ok hk hh;have hp24 : 2 ^ hk ≤ 2 ^ 24 := Nat.pow_le_pow_right (by omega) hh
 have hp0 : 0 < 2 ^ hk := Nat.pow_pos (by omega)
 have em : ((2 ^ hk : Nat) : Int) - 1 = ((2 ^ hk - 1 : Nat) : Int) := by omega
 rw [em] at ha;have hn := turnTo_len t hk l;have hz := turnTo_zero t hk l;have he := turnTo_end t hk l;have hat := fun i (h : i < l.length) => turnTo_at (t := t) (hk := hk) h
 have hset := fun i (h : i < l.length) => turnTo_set (t := t) (hk := hk) h
 have hR : ∀ i (h : i < l.length), l.getD i 0 < 2 ^ hk := fun i h => by rw [rows_get h]; exact hlt _ (List.getElem_mem h)
 have hpl := nats_plain (turnL t hk l);have hnl : (natsV l).length = l.length := by simp
 refine lim_by (fn := a83) (k := 2) (res := [.tmp 4]) rfl rfl rfl (by simp -implicitDefEqProofs (maxSteps := 2000000) (disch := first | exact tt_rfl rfl | omega | (simp only [go_sem] <;> omega) | fail) only [go_sem]) ?_
 try delta mvA
 try delta opA
 try delta tA
 simp -implicitDefEqProofs (maxSteps := 2000000) (disch := first | exact tt_rfl rfl | omega | (simp only [go_sem] <;> omega) | fail) only [go_sem]
 repeat (first | apply Wp.seqA | apply Wp.skipS | apply Wp.blockS | ((first | apply Wp.regS | apply Wp.condV | apply Wp.reg | apply Wp.condW | apply fin_ret); simp -implicitDefEqProofs (maxSteps := 2000000) (disch := first | exact tt_rfl rfl | omega | (simp only [go_sem] <;> omega) | fail) only [go_sem, hc, hnl] <;> try with_reducible rfl) | apply Wp.block | apply Wp.exitS | apply Wp.retS | apply Wp.exit | apply Wp.ret | apply Wp.skip)
 apply Wp.loopF l.length (fun i => ⟨[(2, .ptr 128 0 0), (5, .slice 320 0 l.length), (10, iv (l.length : Int)), (11, iv (i : Int))], [(128, .box [iv (hk : Int), .bool t]), (320, .arr 1 (turnTo t hk l i))], [], 10000000⟩) (fun _ => True)
 ·simp -implicitDefEqProofs (maxSteps := 2000000) (disch := first | exact tt_rfl rfl | omega | (simp only [go_sem] <;> omega) | fail) only [go_sem, norm_eq, Ok.some]
  rw [hz]; rfl
 ·trivial
 intro i hi _;by_cases h : i < l.length
 ·have a1 := hat i h
  have a2 := hset i h;have hr := hR i h;have h3 := hn i;cases t with
  | false =>
   have a4 : turnTo false hk l (i + 1) = turnTo false hk l i := turnTo_same;rw [a4];generalize turnTo false hk l i = L at *;repeat (first | apply Wp.seqA | apply Wp.skipS | apply Wp.blockS | ((first | apply Wp.regS | apply Wp.condV | apply Wp.reg | apply Wp.condW | apply fin_ret); simp -implicitDefEqProofs (maxSteps := 2000000) (disch := first | exact tt_rfl rfl | omega | (simp only [go_sem] <;> omega) | fail) only [go_sem, h, Int.ofNat_lt] <;> try with_reducible rfl) | apply Wp.block | apply Wp.exitS | apply Wp.retS | apply Wp.exit | apply Wp.ret | apply Wp.skip)
   apply round_next
   ·simp -implicitDefEqProofs (maxSteps := 2000000) (disch := first | exact tt_rfl rfl | omega | (simp only [go_sem] <;> omega) | fail) only [go_sem, norm_eq, Ok.some]; with_reducible rfl
   exact ⟨h, by simp, trivial⟩
  | true =>
   have w := w_xor (l.getD i 0) (2 ^ hk - 1) (by omega) (by omega)
   have e1 : turnR true hk (l.getD i 0) = l.getD i 0 ^^^ (2 ^ hk - 1) := by unfold turnR; rw [if_pos rfl]
   rw [e1] at a2;rw [← a2];generalize turnTo true hk l i = L at *;generalize l.getD i 0 ^^^ (2 ^ hk - 1) = y at *;generalize l.getD i 0 = r at *;generalize 2 ^ hk - 1 = al at *;repeat (first | apply Wp.seqA | apply Wp.skipS | apply Wp.blockS | ((first | apply Wp.regS | apply Wp.condV | apply Wp.reg | apply Wp.condW | apply fin_ret); simp -implicitDefEqProofs (maxSteps := 2000000) (disch := first | exact tt_rfl rfl | omega | (simp only [go_sem] <;> omega) | fail) only [go_sem, h, Int.ofNat_lt, a1, h3, ha, w] <;> try with_reducible rfl) | apply Wp.block | apply Wp.exitS | apply Wp.retS | apply Wp.exit | apply Wp.ret | apply Wp.skip)
   apply round_next
   ·simp -implicitDefEqProofs (maxSteps := 2000000) (disch := first | exact tt_rfl rfl | omega | (simp only [go_sem] <;> omega) | fail) only [go_sem, norm_eq, Ok.some]; with_reducible rfl
   exact ⟨h, by simp, trivial⟩
 ·obtain rfl : i = l.length := by omega
  have h3 := hn l.length;rw [he];rw [he] at h3;have htk : (natsV (turnL t hk l)).take l.length = natsV (turnL t hk l) := List.take_of_length_le (by omega)
  generalize natsV (turnL t hk l) = L at *;repeat (first | apply Wp.seqA | apply Wp.skipS | apply Wp.blockS | ((first | apply Wp.regS | apply Wp.condV | apply Wp.reg | apply Wp.condW | apply fin_ret); simp -implicitDefEqProofs (maxSteps := 2000000) (disch := first | exact tt_rfl rfl | omega | (simp only [go_sem] <;> omega) | fail) only [go_sem, Int.lt_irrefl, h3, hpl, htk] <;> try with_reducible rfl) | apply Wp.block | apply Wp.exitS | apply Wp.retS | apply Wp.exit | apply Wp.ret | apply Wp.skip)
end Go.Abs
