/-
 Several texts: X5, X6, X7.
-/
import Derived.Test.YtodpkfillohplaaDoorX4
import Derived.Test.YtodpkfillohplaaDoorM1
set_option linter.all false
namespace Go.Abs
set_option maxRecDepth 10000
set_option maxHeartbeats 4000000
def turnL (t : Bool) (hk : Nat) (l : List Nat) : List Nat := l.map (turnR t hk)
@[simp] theorem turnL_len (t : Bool) (hk : Nat) (l : List Nat) : (turnL t hk l).length = l.length := by simp [turnL]
theorem turnL_at (t : Bool) (hk : Nat) (l : List Nat) {i : Nat} (h : i < l.length) : (turnL t hk l).getD i 0 = turnR t hk (l.getD i 0) := by
 unfold turnL;rw [rows_get (by simpa using h), rows_get h, List.getElem_map]
def turnTo (t : Bool) (hk : Nat) (l : List Nat) (i : Nat) : List AV := (List.range l.length).map fun q => iv ((if q < i then turnR t hk (l.getD q 0) else l.getD q 0 : Nat) : Int)
theorem turnTo_zero (t : Bool) (hk : Nat) (l : List Nat) : turnTo t hk l 0 = natsV l := by
 unfold turnTo natsV;apply List.ext_getElem
 ·simp
 ·intro i h1 h2
  have hi : i < l.length := by simpa using h1
  simp only [List.getElem_map, List.getElem_range, Nat.not_lt_zero, if_false, rows_get hi]
theorem turnTo_end (t : Bool) (hk : Nat) (l : List Nat) : turnTo t hk l l.length = natsV (turnL t hk l) := by
 unfold turnTo natsV turnL;apply List.ext_getElem
 ·simp
 ·intro i h1 h2
  have hi : i < l.length := by simpa using h1
  simp only [List.getElem_map, List.getElem_range, if_pos hi, rows_get hi]
@[simp] theorem turnTo_len (t : Bool) (hk : Nat) (l : List Nat) (i : Nat) : (turnTo t hk l i).length = l.length := by simp [turnTo]
theorem turnTo_at {t : Bool} {hk : Nat} {l : List Nat} {i : Nat} (h : i < l.length) : (turnTo t hk l i)[i]? = some (iv ((l.getD i 0 : Nat) : Int)) := by
 unfold turnTo;rw [List.getElem?_map, List.getElem?_range h];simp
theorem turnTo_set {t : Bool} {hk : Nat} {l : List Nat} {i : Nat} (h : i < l.length) : (turnTo t hk l i).set i (iv ((turnR t hk (l.getD i 0) : Nat) : Int)) = turnTo t hk l (i + 1) := by
 unfold turnTo;apply List.ext_getElem
 ·simp
 ·intro q h1 h2
  rw [List.getElem_set];simp only [List.getElem_map, List.getElem_range];by_cases e : i = q
  ·subst e
   rw [if_pos rfl, if_pos (by omega)]
  ·rw [if_neg e]
   by_cases hq : q < i
   ·rw [if_pos hq, if_pos (by omega)]
   ·rw [if_neg hq, if_neg (by omega)]
theorem turnTo_same {hk : Nat} {l : List Nat} {i : Nat} : turnTo false hk l (i + 1) = turnTo false hk l i := by
 unfold turnTo turnR;simp
theorem Clone_ok (x : AV) (l : List AV) (hl : l.length ≤ 1000000) : lim F 93 [.list 1 (x :: l)] = some (.own 1 (x :: l), []) := by
 refine lim_by (fn := a93) (k := 1) (res := [.tmp 2]) rfl rfl rfl (by simp -implicitDefEqProofs (maxSteps := 2000000) (disch := first | exact tt_rfl rfl | omega | (simp only [go_sem] <;> omega) | fail) only [go_sem]) ?_
 try delta mvA
 try delta opA
 try delta tA
 simp -implicitDefEqProofs (maxSteps := 2000000) (disch := first | exact tt_rfl rfl | omega | (simp only [go_sem] <;> omega) | fail) only [go_sem]
 repeat (first | apply Wp.seqA | apply Wp.skipS | apply Wp.blockS | ((first | apply Wp.regS | apply Wp.condV | apply Wp.reg | apply Wp.condW | apply fin_ret); simp -implicitDefEqProofs (maxSteps := 2000000) (disch := first | exact tt_rfl rfl | omega | (simp only [go_sem] <;> omega) | fail) only [go_sem, List.length_cons, show isNilV false (.list 1 (x :: l)) = some ⟨.bool false, [], []⟩ from rfl] <;> try with_reducible rfl) | apply Wp.block | apply Wp.exitS | apply Wp.retS | apply Wp.exit | apply Wp.ret | apply Wp.skip)
theorem cloneN_ok (l : List Nat) (hl : l.length ≤ 1000) (h1 : 1 ≤ l.length) : lim F 93 [.list 1 (natsV l)] = some (.own 1 (natsV l), []) := by
 cases l with
 | nil => simp at h1
 | cons a r =>
  exact Clone_ok (iv (a : Int)) (r.map fun n : Nat => iv (n : Int)) (by simp at hl ⊢; omega)
theorem turn_ok (t : Bool) (hk : Nat) (hh : hk ≤ 24) (l : List Nat) (hl : l.length ≤ 1000) (h1 : 1 ≤ l.length) (hlt : ∀ r ∈ l, r < 2 ^ hk) : lim F 83 [.agg [iv (hk : Int), .bool t], .list 1 (natsV l)] = some (.own 1 (natsV (turnL t hk l)), []) := by
 have hc := cloneN_ok l hl h1;have ha := all_ok hk hh;have hp24 : 2 ^ hk ≤ 2 ^ 24 := Nat.pow_le_pow_right (by omega) hh
 have hp0 : 0 < 2 ^ hk := Nat.pow_pos (by omega)
 have em : ((2 ^ hk : Nat) : Int) - 1 = ((2 ^ hk - 1 : Nat) : Int) := by omega
 rw [em] at ha;have hn := turnTo_len t hk l;have hz := turnTo_zero t hk l;have he := turnTo_end t hk l;have hat := fun i (h : i < l.length) => turnTo_at (t := t) (hk := hk) h
 have hset := fun i (h : i < l.length) => turnTo_set (t := t) (hk := hk) h
 have hR : ∀ i (h : i < l.length), l.getD i 0 < 2 ^ hk := fun i h => by rw [rows_get h]; exact hlt _ (List.getElem_mem h)
 have hpl := nats_plain (turnL t hk l);have hnl : (natsV l).length = l.length := by simp
 refine lim_by (fn := a83) (k := 2) (res := [.tmp 4]) rfl rfl rfl (by simp -implicitDefEqProofs (maxSteps := 2000000) (disch := first | exact tt_rfl rfl | omega | (simp only [go_sem] <;> omega) | fail) only [go_sem]) ?_
 try delta mvA
 try delta opA
 try delta tA
 simp -implicitDefEqProofs (maxSteps := 2000000) (disch := first | exact tt_rfl rfl | omega | (simp only [go_sem] <;> omega) | fail) only [go_sem]
 repeat (first | apply Wp.seqA | apply Wp.skipS | apply Wp.blockS | ((first | apply Wp.regS | apply Wp.condV | apply Wp.reg | apply Wp.condW | apply fin_ret); simp -implicitDefEqProofs (maxSteps := 2000000) (disch := first | exact tt_rfl rfl | omega | (simp only [go_sem] <;> omega) | fail) only [go_sem, hc, hnl] <;> try with_reducible rfl) | apply Wp.block | apply Wp.exitS | apply Wp.retS | apply Wp.exit | apply Wp.ret | apply Wp.skip)
 apply Wp.loopF l.length (fun i => ⟨[(2, .ptr 128 0 0), (5, .slice 320 0 l.length), (10, iv (l.length : Int)), (11, iv (i : Int))], [(128, .box [iv (hk : Int), .bool t]), (320, .arr 1 (turnTo t hk l i))], [], 10000000⟩) (fun _ => True)
 ·simp -implicitDefEqProofs (maxSteps := 2000000) (disch := first | exact tt_rfl rfl | omega | (simp only [go_sem] <;> omega) | fail) only [go_sem, norm_eq, Ok.some]
  rw [hz]; rfl
 ·trivial
 intro i hi _;by_cases h : i < l.length
 ·have a1 := hat i h
  have a2 := hset i h;have hr := hR i h;have h3 := hn i;cases t with
  | false =>
   have a4 : turnTo false hk l (i + 1) = turnTo false hk l i := turnTo_same;rw [a4];generalize turnTo false hk l i = L at *;repeat (first | apply Wp.seqA | apply Wp.skipS | apply Wp.blockS | ((first | apply Wp.regS | apply Wp.condV | apply Wp.reg | apply Wp.condW | apply fin_ret); simp -implicitDefEqProofs (maxSteps := 2000000) (disch := first | exact tt_rfl rfl | omega | (simp only [go_sem] <;> omega) | fail) only [go_sem, h, Int.ofNat_lt] <;> try with_reducible rfl) | apply Wp.block | apply Wp.exitS | apply Wp.retS | apply Wp.exit | apply Wp.ret | apply Wp.skip)
   apply round_next
   ·simp -implicitDefEqProofs (maxSteps := 2000000) (disch := first | exact tt_rfl rfl | omega | (simp only [go_sem] <;> omega) | fail) only [go_sem, norm_eq, Ok.some]; with_reducible rfl
   exact ⟨h, by simp, trivial⟩
  | true =>
   have w := w_xor (l.getD i 0) (2 ^ hk - 1) (by omega) (by omega)
   have e1 : turnR true hk (l.getD i 0) = l.getD i 0 ^^^ (2 ^ hk - 1) := by unfold turnR; rw [if_pos rfl]
   rw [e1] at a2;rw [← a2];generalize turnTo true hk l i = L at *;generalize l.getD i 0 ^^^ (2 ^ hk - 1) = y at *;generalize l.getD i 0 = r at *;generalize 2 ^ hk - 1 = al at *;repeat (first | apply Wp.seqA | apply Wp.skipS | apply Wp.blockS | ((first | apply Wp.regS | apply Wp.condV | apply Wp.reg | apply Wp.condW | apply fin_ret); simp -implicitDefEqProofs (maxSteps := 2000000) (disch := first | exact tt_rfl rfl | omega | (simp only [go_sem] <;> omega) | fail) only [go_sem, h, Int.ofNat_lt, a1, h3, ha, w] <;> try with_reducible rfl) | apply Wp.block | apply Wp.exitS | apply Wp.retS | apply Wp.exit | apply Wp.ret | apply Wp.skip)
   apply round_next
   ·simp -implicitDefEqProofs (maxSteps := 2000000) (disch := first | exact tt_rfl rfl | omega | (simp only [go_sem] <;> omega) | fail) only [go_sem, norm_eq, Ok.some]; with_reducible rfl
   exact ⟨h, by simp, trivial⟩
 ·obtain rfl : i = l.length := by omega
  have h3 := hn l.length;rw [he];rw [he] at h3;have htk : (natsV (turnL t hk l)).take l.length = natsV (turnL t hk l) := List.take_of_length_le (by omega)
  generalize natsV (turnL t hk l) = L at *;repeat (first | apply Wp.seqA | apply Wp.skipS | apply Wp.blockS | ((first | apply Wp.regS | apply Wp.condV | apply Wp.reg | apply Wp.condW | apply fin_ret); simp -implicitDefEqProofs (maxSteps := 2000000) (disch := first | exact tt_rfl rfl | omega | (simp only [go_sem] <;> omega) | fail) only [go_sem, Int.lt_irrefl, h3, hpl, htk] <;> try with_reducible rfl) | apply Wp.block | apply Wp.exitS | apply Wp.retS | apply Wp.exit | apply Wp.ret | apply Wp.skip)
end Go.Abs
set_option linter.all false
namespace Go.Abs
set_option maxRecDepth 10000
set_option maxHeartbeats 4000000
def listV (l : List Nat) : AV := .list 1 (natsV l)
def setsN (t : Bool) (hk : Nat) (l : List DesN) : List (List Nat) := l.map fun d => turnL t hk d.rows
@[simp] theorem setsN_len (t : Bool) (hk : Nat) (l : List DesN) : (setsN t hk l).length = l.length := by simp [setsN]
theorem setsN_row {t : Bool} {hk n : Nat} {l : List DesN} (h : SetsOk l hk n) : ∀ r ∈ setsN t hk l, r.length = n ∧ ∀ x ∈ r, x < 2 ^ hk := by
 intro r hr;obtain ⟨d, hd, rfl⟩ := List.mem_map.1 hr;refine ⟨by simp [h.rows d hd], fun x hx => ?_⟩
 obtain ⟨y, hy, rfl⟩ := List.mem_map.1 hx;exact turnR_lt (by rw [← h.hk d hd]; exact (h.ok d hd).lt y hy)
theorem SetsOk.k1 {l : List DesN} {hk n : Nat} (h : SetsOk l hk n) : (1 ≤ hk ∧ hk ≤ 24) ∧ 1 ≤ n ∧ n ≤ 60 := by
 obtain ⟨d, r, hr⟩ : ∃ d0 r, l = d0 :: r := by
  have := h.l1;cases l with
  | nil => simp at this
  | cons a r => exact ⟨a, r, rfl⟩
 have hd : d ∈ l := by rw [hr]; simp
 have o := h.ok d hd;have e1 := h.hk d hd;have e2 := h.rows d hd;have := o.h1;have := o.h24;have := o.r1;have := o.r60;omega
theorem setN_at {l : List DesN} {i : Nat} (h : i < l.length) : (l.map setV)[i]? = some (.agg [iv (l[i].hk : Int), .list 1 (natsV l[i].rows)]) := by
 rw [List.getElem?_map, List.getElem?_eq_getElem h]; rfl
theorem sets_av (l : List DesN) : (l.map DesN.a).map DesA.av = l.map setV := by
 rw [List.map_map];exact List.map_congr_left fun d _ => setV_av d
def openV (t : Bool) (hk : Nat) (s : List (List Nat)) : AV := .agg [iv (hk : Int), .bool t, .own 1 (s.map listV)]
def wayOf (t : Bool) : Int := if t then 2 else 1
theorem open_ok {l : List DesN} {hk n : Nat} (h : SetsOk l hk n) (t : Bool) : lim F 61 [iv (wayOf t), .list 2 (l.map setV)] = some (.tuple [openV t hk (setsN t hk l), iv 0], []) := by
 obtain ⟨⟨k1, k2⟩, k3, k4⟩ := h.k1;have hl1 := h.l1;have hl10 := h.l10;have hC := Check_ok (l.map DesN.a) (by simp; omega) (fun d hd => by
  obtain ⟨x, hx, rfl⟩ := List.mem_map.1 hd;have := h.rows x hx;simp [DesN.a]; omega)
 rw [checkS_ok h, sets_av] at hC;have hln : (l.map setV).length = l.length := by simp
 have hg := fun i (hi : i < l.length) => setN_at hi
 have hg0 : (l.map setV)[0]? = some (.agg [iv (hk : Int), .list 1 (natsV l[0].rows)]) := by
  rw [setN_at (show 0 < l.length by omega), h.hk _ (List.getElem_mem _)]
 have hT := fun i (hi : i < l.length) => turn_ok t hk k2 l[i].rows (by rw [h.rows _ (List.getElem_mem _)]; omega) (by rw [h.rows _ (List.getElem_mem _)]; omega) (fun r hr => by
  have := (h.ok _ (List.getElem_mem hi)).lt r hr;rw [h.hk _ (List.getElem_mem _)] at this;exact this)
 have hst : ∀ i (hi : i < l.length), ((setsN t hk l).take (i + 1)).map listV = ((setsN t hk l).take i).map listV ++ [.list 1 (natsV (turnL t hk l[i].rows))] := fun i hi => by
  rw [List.take_succ, List.map_append]
  congr 1
  unfold setsN;rw [List.getElem?_map, List.getElem?_eq_getElem hi]; rfl
 have hl0 : ∀ i, i ≤ l.length → (((setsN t hk l).take i).map listV).length = i := fun i hi => by simp; omega
 have hnl : ∀ i (hi : i < l.length), (natsV (turnL t hk l[i].rows)).length = n := fun i hi => by simp [h.rows _ (List.getElem_mem hi)]
 have htk : ∀ i (hi : i < l.length), (natsV (turnL t hk l[i].rows)).take n = natsV (turnL t hk l[i].rows) := fun i hi => List.take_of_length_le (by rw [hnl i hi]; exact Nat.le_refl _)
 have hfull : (setsN t hk l).take l.length = setsN t hk l := List.take_of_length_le (by simp)
 unfold openV;revert hC hln hg hg0;generalize l.map setV = es;intro hC hln hg hg0;cases t with
 | false =>
  unfold wayOf;refine lim_by (fn := a61) (k := 2) (res := [.cell 4 3 true, .tmp 5]) rfl rfl rfl (by simp -implicitDefEqProofs (maxSteps := 2000000) (disch := first | exact tt_rfl rfl | omega | (simp only [go_sem] <;> omega) | fail) only [go_sem]) ?_
  try delta mvA
  try delta opA
  try delta tA
  simp -implicitDefEqProofs (maxSteps := 2000000) (disch := first | exact tt_rfl rfl | omega | (simp only [go_sem] <;> omega) | fail) only [go_sem]
  repeat (first | apply Wp.seqA | apply Wp.skipS | apply Wp.blockS | ((first | apply Wp.regS | apply Wp.condV | apply Wp.reg | apply Wp.condW | apply fin_ret); simp -implicitDefEqProofs (maxSteps := 2000000) (disch := first | exact tt_rfl rfl | omega | (simp only [go_sem] <;> omega) | fail) only [go_sem, hC, hln, hg0, ite_true, ite_false, Bool.false_eq_true] <;> try with_reducible rfl) | apply Wp.block | apply Wp.exitS | apply Wp.retS | apply Wp.exit | apply Wp.ret | apply Wp.skip)
  apply Wp.loopF l.length (fun i => ⟨[(4, .ptr 256 0 0), (30, .list 2 es), (31, iv (l.length : Int)), (32, iv (i : Int))], [(256, .box [iv (hk : Int), .bool false, .slice 304098 0 i]), (304098, .arr 1 (((setsN false hk l).take i).map listV))], [], 10000000⟩) (fun _ => True)
  ·simp -implicitDefEqProofs (maxSteps := 2000000) (disch := first | exact tt_rfl rfl | omega | (simp only [go_sem] <;> omega) | fail) only [go_sem, norm_eq, Ok.some]
   rfl
  ·trivial
  intro i hi _;by_cases h' : i < l.length
  ·have a1 := hg i h'
   have a2 := hT i h';have e := hst i h';have q1 := hl0 i (by omega)
   have q2 := hnl i h';have q3 := htk i h';rw [e];generalize ((setsN false hk l).take i).map listV = L at *;have q4 := nats_plain (turnL false hk l[i].rows);generalize natsV (turnL false hk l[i].rows) = nr at *;generalize natsV l[i].rows = rr at *;repeat (first | apply Wp.seqA | apply Wp.skipS | apply Wp.blockS | ((first | apply Wp.regS | apply Wp.condV | apply Wp.reg | apply Wp.condW | apply fin_ret); simp -implicitDefEqProofs (maxSteps := 2000000) (disch := first | exact tt_rfl rfl | omega | (simp only [go_sem] <;> omega) | fail) only [go_sem, h', Int.ofNat_lt, a1, a2, hln, q1, q2, q3, q4] <;> try with_reducible rfl) | apply Wp.block | apply Wp.exitS | apply Wp.retS | apply Wp.exit | apply Wp.ret | apply Wp.skip)
   apply round_next
   ·simp -implicitDefEqProofs (maxSteps := 2000000) (disch := first | exact tt_rfl rfl | omega | (simp only [go_sem] <;> omega) | fail) only [go_sem, norm_eq, Ok.some]; with_reducible rfl
   exact ⟨h', by simp, trivial⟩
  ·obtain rfl : i = l.length := by omega
   have q1 := hl0 l.length (by omega)
   rw [hfull] at *;have q3 : ((setsN false hk l).map listV).take l.length = (setsN false hk l).map listV := List.take_of_length_le (by omega)
   generalize (setsN false hk l).map listV = L at *;repeat (first | apply Wp.seqA | apply Wp.skipS | apply Wp.blockS | ((first | apply Wp.regS | apply Wp.condV | apply Wp.reg | apply Wp.condW | apply fin_ret); simp -implicitDefEqProofs (maxSteps := 2000000) (disch := first | exact tt_rfl rfl | omega | (simp only [go_sem] <;> omega) | fail) only [go_sem, Int.lt_irrefl, q1, q3, hln] <;> try with_reducible rfl) | apply Wp.block | apply Wp.exitS | apply Wp.retS | apply Wp.exit | apply Wp.ret | apply Wp.skip)
 | true =>
  unfold wayOf;refine lim_by (fn := a61) (k := 2) (res := [.cell 4 3 true, .tmp 5]) rfl rfl rfl (by simp -implicitDefEqProofs (maxSteps := 2000000) (disch := first | exact tt_rfl rfl | omega | (simp only [go_sem] <;> omega) | fail) only [go_sem]) ?_
  try delta mvA
  try delta opA
  try delta tA
  simp -implicitDefEqProofs (maxSteps := 2000000) (disch := first | exact tt_rfl rfl | omega | (simp only [go_sem] <;> omega) | fail) only [go_sem]
  repeat (first | apply Wp.seqA | apply Wp.skipS | apply Wp.blockS | ((first | apply Wp.regS | apply Wp.condV | apply Wp.reg | apply Wp.condW | apply fin_ret); simp -implicitDefEqProofs (maxSteps := 2000000) (disch := first | exact tt_rfl rfl | omega | (simp only [go_sem] <;> omega) | fail) only [go_sem, hC, hln, hg0, ite_true, ite_false, Bool.false_eq_true] <;> try with_reducible rfl) | apply Wp.block | apply Wp.exitS | apply Wp.retS | apply Wp.exit | apply Wp.ret | apply Wp.skip)
  apply Wp.loopF l.length (fun i => ⟨[(4, .ptr 256 0 0), (30, .list 2 es), (31, iv (l.length : Int)), (32, iv (i : Int))], [(256, .box [iv (hk : Int), .bool true, .slice 304098 0 i]), (304098, .arr 1 (((setsN true hk l).take i).map listV))], [], 10000000⟩) (fun _ => True)
  ·simp -implicitDefEqProofs (maxSteps := 2000000) (disch := first | exact tt_rfl rfl | omega | (simp only [go_sem] <;> omega) | fail) only [go_sem, norm_eq, Ok.some]
   rfl
  ·trivial
  intro i hi _;by_cases h' : i < l.length
  ·have a1 := hg i h'
   have a2 := hT i h';have e := hst i h';have q1 := hl0 i (by omega)
   have q2 := hnl i h';have q3 := htk i h';rw [e];generalize ((setsN true hk l).take i).map listV = L at *;have q4 := nats_plain (turnL true hk l[i].rows);generalize natsV (turnL true hk l[i].rows) = nr at *;generalize natsV l[i].rows = rr at *;repeat (first | apply Wp.seqA | apply Wp.skipS | apply Wp.blockS | ((first | apply Wp.regS | apply Wp.condV | apply Wp.reg | apply Wp.condW | apply fin_ret); simp -implicitDefEqProofs (maxSteps := 2000000) (disch := first | exact tt_rfl rfl | omega | (simp only [go_sem] <;> omega) | fail) only [go_sem, h', Int.ofNat_lt, a1, a2, hln, q1, q2, q3, q4] <;> try with_reducible rfl) | apply Wp.block | apply Wp.exitS | apply Wp.retS | apply Wp.exit | apply Wp.ret | apply Wp.skip)
   apply round_next
   ·simp -implicitDefEqProofs (maxSteps := 2000000) (disch := first | exact tt_rfl rfl | omega | (simp only [go_sem] <;> omega) | fail) only [go_sem, norm_eq, Ok.some]; with_reducible rfl
   exact ⟨h', by simp, trivial⟩
  ·obtain rfl : i = l.length := by omega
   have q1 := hl0 l.length (by omega)
   rw [hfull] at *;have q3 : ((setsN true hk l).map listV).take l.length = (setsN true hk l).map listV := List.take_of_length_le (by omega)
   generalize (setsN true hk l).map listV = L at *;repeat (first | apply Wp.seqA | apply Wp.skipS | apply Wp.blockS | ((first | apply Wp.regS | apply Wp.condV | apply Wp.reg | apply Wp.condW | apply fin_ret); simp -implicitDefEqProofs (maxSteps := 2000000) (disch := first | exact tt_rfl rfl | omega | (simp only [go_sem] <;> omega) | fail) only [go_sem, Int.lt_irrefl, q1, q3, hln] <;> try with_reducible rfl) | apply Wp.block | apply Wp.exitS | apply Wp.retS | apply Wp.exit | apply Wp.ret | apply Wp.skip)
def atR (l : List Nat) (i : Nat) : Nat := l.getD i 0
def lostN (a b : List Nat) (i : Nat) : Nat := lostT (atR a) (atR b) i
def subB (a b : List Nat) (n : Nat) : Bool := (List.range n).all fun i => decide (subN (atR b i) (atR a i) = 0)
def joinAt (s : List (List Nat)) (q : Nat) : Nat := orAll (s.map fun r => atR r q)
def joinN (s : List (List Nat)) (n : Nat) : List Nat := (List.range n).map (joinAt s)
@[simp] theorem joinN_len (s : List (List Nat)) (n : Nat) : (joinN s n).length = n := by simp [joinN]
def joinTo (s : List (List Nat)) (n k i : Nat) : List AV := (List.range n).map fun q => iv ((joinAt (s.take (if q < i then k + 1 else k)) q : Nat) : Int)
@[simp] theorem joinTo_len (s : List (List Nat)) (n k i : Nat) : (joinTo s n k i).length = n := by simp [joinTo]
theorem joinTo_start (s : List (List Nat)) (n : Nat) : joinTo s n 0 0 = List.replicate n (iv 0) := by
 unfold joinTo;apply List.ext_getElem
 ·simp
 ·intro i h1 h2
  simp only [List.getElem_map, List.getElem_range, Nat.not_lt_zero, if_false, List.take_zero, List.getElem_replicate];rfl
theorem joinTo_next (s : List (List Nat)) (n k : Nat) : joinTo s n k n = joinTo s n (k + 1) 0 := by
 unfold joinTo;refine List.map_congr_left fun q hq => ?_
 rw [if_pos (List.mem_range.1 hq), if_neg (by omega)]
theorem joinTo_end (s : List (List Nat)) (n : Nat) : joinTo s n s.length 0 = natsV (joinN s n) := by
 unfold joinTo natsV joinN;rw [List.map_map];refine List.map_congr_left fun q _ => ?_
 simp
theorem joinTo_at {s : List (List Nat)} {n k i : Nat} (h : i < n) : (joinTo s n k i)[i]? = some (iv ((joinAt (s.take k) i : Nat) : Int)) := by
 unfold joinTo;rw [List.getElem?_map, List.getElem?_range h];simp
theorem joinAt_succ {s : List (List Nat)} {k i : Nat} (hk : k < s.length) : joinAt (s.take (k + 1)) i = joinAt (s.take k) i ||| atR s[k] i := by
 unfold joinAt;rw [List.take_succ, List.getElem?_eq_getElem hk, List.map_append];exact orAll_snoc _ _
theorem joinTo_set {s : List (List Nat)} {n k i : Nat} (h : i < n) (hk : k < s.length) : (joinTo s n k i).set i (iv ((joinAt (s.take k) i ||| atR s[k] i : Nat) : Int)) = joinTo s n k (i + 1) := by
 rw [← joinAt_succ hk];unfold joinTo;apply List.ext_getElem
 ·simp
 ·intro q h1 h2
  rw [List.getElem_set];simp only [List.getElem_map, List.getElem_range];by_cases e : i = q
  ·subst e
   rw [if_pos rfl, if_pos (by omega)]
  ·rw [if_neg e]
   by_cases hq : q < i
   ·rw [if_pos hq, if_pos (by omega)]
   ·rw [if_neg hq, if_neg (by omega)]
theorem joinAt_lt {s : List (List Nat)} {m q n : Nat} (h : ∀ r ∈ s, r.length = n ∧ ∀ x ∈ r, x < 2 ^ m) (hq : q < n) : joinAt s q < 2 ^ m := by
 unfold joinAt;refine orAll_lt fun x hx => ?_
 obtain ⟨r, hr, rfl⟩ := List.mem_map.1 hx;obtain ⟨h1, h2⟩ := h r hr;unfold atR;rw [rows_get (by omega)]
 exact h2 _ (List.getElem_mem _)
theorem join_ok (s : List (List Nat)) (n : Nat) (h1 : 1 ≤ s.length) (hl : s.length ≤ 1000) (hn : n ≤ 1000) (h : ∀ r ∈ s, r.length = n ∧ ∀ x ∈ r, x < 2 ^ 24) : lim F 63 [.list 1 (s.map listV)] = some (.own 1 (natsV (joinN s n)), []) := by
 have hln : (s.map listV).length = s.length := by simp
 have hg : ∀ k (hk : k < s.length), (s.map listV)[k]? = some (.list 1 (natsV s[k])) := fun k hk => by
  rw [List.getElem?_map, List.getElem?_eq_getElem hk]; rfl
 have hg0 : (s.map listV)[0]? = some (.list 1 (natsV s[0])) := hg 0 (by omega)
 have hr := fun k (hk : k < s.length) => h _ (List.getElem_mem hk)
 have hnn : ∀ k (hk : k < s.length), (natsV s[k]).length = n := fun k hk => by simp [(hr k hk).1]
 have hnn0 : (natsV s[0]).length = n := hnn 0 (by omega)
 have hat : ∀ k (hk : k < s.length) i, i < n → (natsV s[k])[i]? = some (iv ((atR s[k] i : Nat) : Int)) := fun k hk i hi => nats_at (by rw [(hr k hk).1]; exact hi)
 have hlt : ∀ k (hk : k < s.length) i, i < n → atR s[k] i < 2 ^ 24 := fun k hk i hi => by
  unfold atR;rw [rows_get (by rw [(hr k hk).1]; exact hi)]
  exact (hr k hk).2 _ (List.getElem_mem _)
 have hjl : ∀ k i, i < n → joinAt (s.take k) i < 2 ^ 24 := fun k i hi => joinAt_lt (n := n) (fun r hr => h r (List.mem_of_mem_take hr)) hi
 have hset := fun k (hk : k < s.length) i (hi : i < n) => joinTo_set (s := s) hi hk
 have hnext := joinTo_next s n;have hend := joinTo_end s n;have hstart := joinTo_start s n;have hjn := joinTo_len s n;have hja := fun k i (hi : i < n) => joinTo_at (s := s) (k := k) hi
 have hpl := nats_plain (joinN s n);generalize s.map listV = es at *;refine lim_by (fn := a63) (k := 1) (res := [.tmp 2]) rfl rfl rfl (by simp -implicitDefEqProofs (maxSteps := 2000000) (disch := first | exact tt_rfl rfl | omega | (simp only [go_sem] <;> omega) | fail) only [go_sem]) ?_
 try delta mvA
 try delta opA
 try delta tA
 simp -implicitDefEqProofs (maxSteps := 2000000) (disch := first | exact tt_rfl rfl | omega | (simp only [go_sem] <;> omega) | fail) only [go_sem]
 repeat (first | apply Wp.seqA | apply Wp.skipS | apply Wp.blockS | ((first | apply Wp.regS | apply Wp.condV | apply Wp.reg | apply Wp.condW | apply fin_ret); simp -implicitDefEqProofs (maxSteps := 2000000) (disch := first | exact tt_rfl rfl | omega | (simp only [go_sem] <;> omega) | fail) only [go_sem, hln, hg0, hnn0] <;> try with_reducible rfl) | apply Wp.block | apply Wp.exitS | apply Wp.retS | apply Wp.exit | apply Wp.ret | apply Wp.skip)
 apply Wp.loopF s.length (fun k => ⟨[(3, .slice 192 0 n), (13, .list 1 es), (14, iv (s.length : Int)), (15, iv (k : Int))], [(192, .arr 1 (joinTo s n k 0))], [], 10000000⟩) (fun _ => True)
 ·simp -implicitDefEqProofs (maxSteps := 2000000) (disch := first | exact tt_rfl rfl | omega | (simp only [go_sem] <;> omega) | fail) only [go_sem, norm_eq, Ok.some]
  rw [hstart]; simp
 ·trivial
 intro k hk _;by_cases h' : k < s.length
 ·have b1 := hg k h'
  have b2 := hnn k h';have b3 := hat k h';have b4 := hlt k h';have b5 := hset k h';have b6 := hnext k;have b7 := hjl k;have b8 := hja k;have b9 := hjn k;generalize natsV s[k] = rk at *;repeat (first | apply Wp.seqA | apply Wp.skipS | apply Wp.blockS | ((first | apply Wp.regS | apply Wp.condV | apply Wp.reg | apply Wp.condW | apply fin_ret); simp -implicitDefEqProofs (maxSteps := 2000000) (disch := first | exact tt_rfl rfl | omega | (simp only [go_sem] <;> omega) | fail) only [go_sem, h', Int.ofNat_lt, b1, b2] <;> try with_reducible rfl) | apply Wp.block | apply Wp.exitS | apply Wp.retS | apply Wp.exit | apply Wp.ret | apply Wp.skip)
  apply Wp.loopF n (fun i => ⟨[(3, .slice 192 0 n), (13, .list 1 es), (14, iv (s.length : Int)), (15, iv (k : Int)), (19, .list 1 rk), (20, iv (n : Int)), (21, iv (i : Int))], [(192, .arr 1 (joinTo s n k i))], [], 10000000⟩) (fun _ => True)
  ·simp -implicitDefEqProofs (maxSteps := 2000000) (disch := first | exact tt_rfl rfl | omega | (simp only [go_sem] <;> omega) | fail) only [go_sem, norm_eq, Ok.some]
   rfl
  ·trivial
  intro i hi _;by_cases hi' : i < n
  ·have c1 := b3 i hi'
   have c2 := b8 i hi';have c3 := b9 i;have c4 := b5 i hi';have w := w_or (joinAt (s.take k) i) (atR s[k] i) (by have := b7 i hi'; omega) (by have := b4 i hi'; omega)
   rw [← c4];generalize joinTo s n k i = L at *;generalize joinAt (s.take k) i ||| atR s[k] i = y at *
   generalize joinAt (s.take k) i = x1 at *;generalize atR s[k] i = x2 at *;repeat (first | apply Wp.seqA | apply Wp.skipS | apply Wp.blockS | ((first | apply Wp.regS | apply Wp.condV | apply Wp.reg | apply Wp.condW | apply fin_ret); simp -implicitDefEqProofs (maxSteps := 2000000) (disch := first | exact tt_rfl rfl | omega | (simp only [go_sem] <;> omega) | fail) only [go_sem, hi', Int.ofNat_lt, b2, c1, c2, c3, w] <;> try with_reducible rfl) | apply Wp.block | apply Wp.exitS | apply Wp.retS | apply Wp.exit | apply Wp.ret | apply Wp.skip)
   apply round_next
   ·simp -implicitDefEqProofs (maxSteps := 2000000) (disch := first | exact tt_rfl rfl | omega | (simp only [go_sem] <;> omega) | fail) only [go_sem, norm_eq, Ok.some]; with_reducible rfl
   exact ⟨hi', by simp, trivial⟩
  ·obtain rfl : i = n := by omega
   rw [b6];repeat (first | apply Wp.seqA | apply Wp.skipS | apply Wp.blockS | ((first | apply Wp.regS | apply Wp.condV | apply Wp.reg | apply Wp.condW | apply fin_ret); simp -implicitDefEqProofs (maxSteps := 2000000) (disch := first | exact tt_rfl rfl | omega | (simp only [go_sem] <;> omega) | fail) only [go_sem, Int.lt_irrefl] <;> try with_reducible rfl) | apply Wp.block | apply Wp.exitS | apply Wp.retS | apply Wp.exit | apply Wp.ret | apply Wp.skip)
   apply round_next
   ·simp -implicitDefEqProofs (maxSteps := 2000000) (disch := first | exact tt_rfl rfl | omega | (simp only [go_sem] <;> omega) | fail) only [go_sem, norm_eq, Ok.some]; with_reducible rfl
   exact ⟨h', by simp, trivial⟩
 ·obtain rfl : k = s.length := by omega
  rw [hend];have q1 := hjn s.length 0;rw [hend] at q1;have htk : (natsV (joinN s n)).take n = natsV (joinN s n) := List.take_of_length_le (by omega)
  generalize natsV (joinN s n) = L at *;repeat (first | apply Wp.seqA | apply Wp.skipS | apply Wp.blockS | ((first | apply Wp.regS | apply Wp.condV | apply Wp.reg | apply Wp.condW | apply fin_ret); simp -implicitDefEqProofs (maxSteps := 2000000) (disch := first | exact tt_rfl rfl | omega | (simp only [go_sem] <;> omega) | fail) only [go_sem, Int.lt_irrefl, q1, hpl, htk] <;> try with_reducible rfl) | apply Wp.block | apply Wp.exitS | apply Wp.retS | apply Wp.exit | apply Wp.ret | apply Wp.skip)
end Go.Abs
set_option linter.all false
namespace Go.Abs
set_option maxRecDepth 10000
set_option maxHeartbeats 4000000
theorem design_ok (t : Bool) (hk : Nat) (hh : hk ≤ 24) (l : List Nat) (hl : l.length ≤ 1000) (h1 : 1 ≤ l.length) (hlt : ∀ r ∈ l, r < 2 ^ hk) : lim F 62 [.agg [iv (hk : Int), .bool t], .list 1 (natsV l)] = some (.agg [iv (hk : Int), .own 1 (natsV (turnL t hk l))], []) := by
 have h := turn_ok t hk hh l hl h1 hlt;have hpl := nats_plain (turnL t hk l);have htk : (natsV (turnL t hk l)).take l.length = natsV (turnL t hk l) := List.take_of_length_le (by simp)
 have hn : (natsV (turnL t hk l)).length = l.length := by simp
 generalize natsV (turnL t hk l) = L at *;generalize natsV l = es at *;refine lim_by (fn := a62) (k := 2) (res := [.cell 4 2 true]) rfl rfl rfl (by simp -implicitDefEqProofs (maxSteps := 2000000) (disch := first | exact tt_rfl rfl | omega | (simp only [go_sem] <;> omega) | fail) only [go_sem]) ?_
 try delta mvA
 try delta opA
 try delta tA
 simp -implicitDefEqProofs (maxSteps := 2000000) (disch := first | exact tt_rfl rfl | omega | (simp only [go_sem] <;> omega) | fail) only [go_sem]
 repeat (first | apply Wp.seqA | apply Wp.skipS | apply Wp.blockS | ((first | apply Wp.regS | apply Wp.condV | apply Wp.reg | apply Wp.condW | apply fin_ret); simp -implicitDefEqProofs (maxSteps := 2000000) (disch := first | exact tt_rfl rfl | omega | (simp only [go_sem] <;> omega) | fail) only [go_sem, h, hpl, htk, hn] <;> try with_reducible rfl) | apply Wp.block | apply Wp.exitS | apply Wp.retS | apply Wp.exit | apply Wp.ret | apply Wp.skip)
def firstN (t : Bool) (hk n : Nat) (l : List DesN) : DesN := ⟨hk, turnL t hk (joinN (setsN t hk l) n)⟩
theorem up24 {x hk : Nat} (h : x < 2 ^ hk) (h' : hk ≤ 24) : x < 2 ^ 24 := Nat.lt_of_lt_of_le h (Nat.pow_le_pow_right (by omega) h')
theorem First_ok {l : List DesN} {hk n : Nat} (h : SetsOk l hk n) (t : Bool) : lim F 17 [iv (wayOf t), .list 2 (l.map setV)] = some (.tuple [.agg [iv (hk : Int), .own 1 (natsV (firstN t hk n l).rows)], iv 0], []) := by
 obtain ⟨⟨k1, k2⟩, k3, k4⟩ := h.k1;have hO := open_ok h t;have hrow := setsN_row (t := t) h;have hJ := join_ok (setsN t hk l) n (by simp; exact h.l1) (by have := h.l10; simp; omega) (by omega) (fun r hr => ⟨(hrow r hr).1, fun x hx => up24 ((hrow r hr).2 x hx) k2⟩)
 have hD := design_ok t hk k2 (joinN (setsN t hk l) n) (by simp; omega) (by simp; omega) (fun r hr => by
  obtain ⟨q, hq, rfl⟩ := List.mem_map.1 hr;exact joinAt_lt hrow (List.mem_range.1 hq))
 have n1 : ((setsN t hk l).map listV).length = l.length := by simp
 have n2 : (natsV (joinN (setsN t hk l) n)).length = n := by simp
 have n3 : (natsV (firstN t hk n l).rows).length = n := by simp [firstN]
 have P2 := nats_plain (joinN (setsN t hk l) n);have P3 := nats_plain (firstN t hk n l).rows;have t1 : ((setsN t hk l).map listV).take l.length = (setsN t hk l).map listV := List.take_of_length_le (by omega)
 have t2 : (natsV (joinN (setsN t hk l) n)).take n = natsV (joinN (setsN t hk l) n) := List.take_of_length_le (by omega)
 have t3 : (natsV (firstN t hk n l).rows).take n = natsV (firstN t hk n l).rows := List.take_of_length_le (by omega)
 change lim F _ _ = some (.agg [_, .own 1 (natsV (firstN t hk n l).rows)], []) at hD;unfold openV at hO;generalize natsV (firstN t hk n l).rows = fr at *;generalize natsV (joinN (setsN t hk l) n) = jr at *;generalize (setsN t hk l).map listV = sr at *;generalize l.map setV = es at *;refine lim_by (fn := a17) (k := 2) (res := [.cell 4 2 true, .tmp 5]) rfl rfl rfl (by simp -implicitDefEqProofs (maxSteps := 2000000) (disch := first | exact tt_rfl rfl | omega | (simp only [go_sem] <;> omega) | fail) only [go_sem]) ?_
 try delta mvA
 try delta opA
 try delta tA
 simp -implicitDefEqProofs (maxSteps := 2000000) (disch := first | exact tt_rfl rfl | omega | (simp only [go_sem] <;> omega) | fail) only [go_sem]
 repeat (first | apply Wp.seqA | apply Wp.skipS | apply Wp.blockS | ((first | apply Wp.regS | apply Wp.condV | apply Wp.reg | apply Wp.condW | apply fin_ret); simp -implicitDefEqProofs (maxSteps := 2000000) (disch := first | exact tt_rfl rfl | omega | (simp only [go_sem] <;> omega) | fail) only [go_sem, hO, hJ, hD, n1, n2, n3, P2, P3, t1, t2, t3, ite_self] <;> try with_reducible rfl) | apply Wp.block | apply Wp.exitS | apply Wp.retS | apply Wp.exit | apply Wp.ret | apply Wp.skip)
def madeB (t : Bool) (hk n : Nat) (a b : DesN) : Bool := subB (turnL t hk a.rows) (turnL t hk b.rows) n
def madeN (t : Bool) (hk n : Nat) (a b : DesN) : Nat := if madeB t hk n a b then lostN (turnL t hk a.rows) (turnL t hk b.rows) n else 0
def bitOk (x y : Nat) (h : Nat) : Prop := ∀ q, q < h → ¬ (y.testBit q = true ∧ x.testBit q = false)
theorem bitsN_top {x hk n : Nat} (hx : x < 2 ^ hk) (h : hk ≤ n) : bitsN x n = bitsN x hk := by
 obtain ⟨m, rfl⟩ := Nat.exists_eq_add_of_le h;rw [bitsN_add];have : x >>> hk = 0 := by rw [Nat.shiftRight_eq_div_pow]; exact Nat.div_eq_of_lt hx
 rw [this];simp [bitsN]
end Go.Abs
