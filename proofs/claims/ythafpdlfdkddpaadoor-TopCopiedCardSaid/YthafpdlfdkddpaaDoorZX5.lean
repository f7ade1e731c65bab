/-
 Several texts: ZY3, ZX4, ZX5.
-/
import Derived.Test.YthafpdlfdkddpaaDoorZX3
set_option linter.all false
namespace Go.Abs.Cp
set_option maxRecDepth 10000

def headA (l : List DesA) : DesA := l.headD ⟨0, []⟩
/-- as many hooks and rows as the first one -/
def likeB (l : List DesA) (d : DesA) : Bool := decide (d.hk = (headA l).hk ∧ d.rows.length = (headA l).rows.length)
def checkS (l : List DesA) : Int := if 10 < l.length then 5 else if l.length = 0 then 7 else if firstE l ≠ 0 then firstE l else if l.all (likeB l) then 0 else 4
def wayE (w : Int) (l : List DesA) : Int := if checkS l ≠ 0 then checkS l else if w = 1 ∨ w = 2 then 0 else 2
/-- sets without an error -/
structure SetsOk (l : List DesN) (hk n : Nat) : Prop where
 l1 : 1 ≤ l.length
 l10 : l.length ≤ 10
 ok : ∀ d ∈ l, d.Ok
 hk : ∀ d ∈ l, d.hk = hk
 rows : ∀ d ∈ l, d.rows.length = n
theorem checkS_ok {l : List DesN} {hk n : Nat} (h : SetsOk l hk n) : checkS (l.map DesN.a) = 0 := by
 have h1 := h.l1
 have h10 := h.l10
 unfold checkS
 rw [if_neg (by rw [List.length_map]; omega), if_neg (by rw [List.length_map]; omega), if_neg, if_pos]
 ·refine List.all_eq_true.2 fun d hd => decide_eq_true ?_
  obtain ⟨x, hx, rfl⟩ := List.mem_map.1 hd
  obtain ⟨d0, r, hr⟩ : ∃ d0 r, l = d0 :: r := by
   cases l with
   | nil => simp at h1
   | cons a r => exact ⟨a, r, rfl⟩
  have hh : headA (l.map DesN.a) = d0.a := by rw [hr]; rfl
  rw [hh]
  have a1 := h.hk x hx
  have a2 := h.rows x hx
  have b1 := h.hk d0 (by rw [hr]; simp)
  have b2 := h.rows d0 (by rw [hr]; simp)
  exact ⟨by simp [DesN.a, a1, b1], by simp [DesN.a, a2, b2]⟩
 ·rw [firstE_none]
  ·simp
  ·intro j hj
   rw [List.getElem_map]
   exact checkD_ok (h.ok _ (List.getElem_mem _))
end Go.Abs.Cp

set_option linter.all false
namespace Go.Abs.Cp
set_option maxRecDepth 10000
set_option maxHeartbeats 4000000

theorem index_sets (l : List DesA) (p : DesA → Bool) (f : Nat) (x : AV) (hl : l.length < 1000000000) (hp : ∀ d ∈ l, lim F f [d.av, .iptr x 0] = some (.bool (p d), [])) :
  lim F 73 [.list 2 (l.map DesA.av), .func f [.iptr x 0]] = some (iv (idxF p l), []) := by
 have hln : (l.map DesA.av).length = l.length := by simp
 have hg := fun i (h : i < l.length) => set_at h
 unfold DesA.av at hp
 generalize l.map DesA.av = es at *
 refine lim_by (fn := a73) (k := 2) (res := [.tmp 4]) rfl rfl rfl (by simp -implicitDefEqProofs (maxSteps := 2000000) (disch := first | exact tt_rfl rfl | omega | (simp only [go_sem] <;> omega) | fail) only [go_sem]) ?_
 try delta mvA
 try delta opA
 try delta tA
 simp -implicitDefEqProofs (maxSteps := 2000000) (disch := first | exact tt_rfl rfl | omega | (simp only [go_sem] <;> omega) | fail) only [go_sem]
 repeat (first | apply Wp.seqA | apply Wp.skipS | apply Wp.blockS | ((first | apply Wp.regS | apply Wp.condV | apply Wp.reg | apply Wp.condW | apply fin_ret); simp -implicitDefEqProofs (maxSteps := 2000000) (disch := first | exact tt_rfl rfl | omega | (simp only [go_sem] <;> omega) | fail) only [go_sem, hln] <;> try with_reducible rfl) | apply Wp.block | apply Wp.exitS | apply Wp.retS | apply Wp.exit | apply Wp.ret | apply Wp.skip)
 apply Wp.loopF l.length (fun i => ⟨[(0, .list 2 es), (1, .func f [.iptr x 0]), (7, iv l.length), (8, iv i)], [], [], 10000000⟩) (fun i => ∀ j (hj : j < l.length), j < i → p l[j] = false)
 ·simp -implicitDefEqProofs (maxSteps := 2000000) (disch := first | exact tt_rfl rfl | omega | (simp only [go_sem] <;> omega) | fail) only [go_sem, norm_eq, Ok.some]
  rfl
 ·intro j hj h; omega
 intro i hi hn
 by_cases h : i < l.length
 ·have hc := hp l[i] (List.getElem_mem h)
  have h1 := hg i h
  cases hb : p l[i] with
  | true =>
   rw [hb] at hc
   repeat (first | apply Wp.seqA | apply Wp.skipS | apply Wp.blockS | ((first | apply Wp.regS | apply Wp.condV | apply Wp.reg | apply Wp.condW | apply fin_ret); simp -implicitDefEqProofs (maxSteps := 2000000) (disch := first | exact tt_rfl rfl | omega | (simp only [go_sem] <;> omega) | fail) only [go_sem, h, h1, hc, Int.ofNat_lt, hln] <;> try with_reducible rfl) | apply Wp.block | apply Wp.exitS | apply Wp.retS | apply Wp.exit | apply Wp.ret | apply Wp.skip)
   rw [idxF_at h hb hn]
  | false =>
   rw [hb] at hc
   repeat (first | apply Wp.seqA | apply Wp.skipS | apply Wp.blockS | ((first | apply Wp.regS | apply Wp.condV | apply Wp.reg | apply Wp.condW | apply fin_ret); simp -implicitDefEqProofs (maxSteps := 2000000) (disch := first | exact tt_rfl rfl | omega | (simp only [go_sem] <;> omega) | fail) only [go_sem, h, h1, hc, Int.ofNat_lt, hln] <;> try with_reducible rfl) | apply Wp.block | apply Wp.exitS | apply Wp.retS | apply Wp.exit | apply Wp.ret | apply Wp.skip)
   apply round_next
   ·simp -implicitDefEqProofs (maxSteps := 2000000) (disch := first | exact tt_rfl rfl | omega | (simp only [go_sem] <;> omega) | fail) only [go_sem, norm_eq, Ok.some]; with_reducible rfl
   refine ⟨h, by simp, fun j hj hji => ?_⟩
   by_cases e : j = i
   ·subst e; exact hb
   ·exact hn j hj (by omega)
 ·repeat (first | apply Wp.seqA | apply Wp.skipS | apply Wp.blockS | ((first | apply Wp.regS | apply Wp.condV | apply Wp.reg | apply Wp.condW | apply fin_ret); simp -implicitDefEqProofs (maxSteps := 2000000) (disch := first | exact tt_rfl rfl | omega | (simp only [go_sem] <;> omega) | fail) only [go_sem, h, Int.ofNat_lt, hln] <;> try with_reducible rfl) | apply Wp.block | apply Wp.exitS | apply Wp.retS | apply Wp.exit | apply Wp.ret | apply Wp.skip)
  rw [idxF_no fun j hj => hn j hj (by omega)]
theorem contains_sets (l : List DesA) (p : DesA → Bool) (f : Nat) (x : AV) (hl : l.length < 1000000000) (hp : ∀ d ∈ l, lim F f [d.av, .iptr x 0] = some (.bool (p d), [])) :
  lim F 56 [.list 2 (l.map DesA.av), .func f [.iptr x 0]] = some (.bool (l.any p), []) := by
 have h := index_sets l p f x hl hp
 refine lim_by (fn := a56) (k := 2) (res := [.tmp 4]) rfl rfl rfl (by simp -implicitDefEqProofs (maxSteps := 2000000) (disch := first | exact tt_rfl rfl | omega | (simp only [go_sem] <;> omega) | fail) only [go_sem]) ?_
 try delta mvA
 try delta opA
 try delta tA
 simp -implicitDefEqProofs (maxSteps := 2000000) (disch := first | exact tt_rfl rfl | omega | (simp only [go_sem] <;> omega) | fail) only [go_sem]
 repeat (first | apply Wp.seqA | apply Wp.skipS | apply Wp.blockS | ((first | apply Wp.regS | apply Wp.condV | apply Wp.reg | apply Wp.condW | apply fin_ret); simp -implicitDefEqProofs (maxSteps := 2000000) (disch := first | exact tt_rfl rfl | omega | (simp only [go_sem] <;> omega) | fail) only [go_sem, h, idxF_ge] <;> try with_reducible rfl) | apply Wp.block | apply Wp.exitS | apply Wp.retS | apply Wp.exit | apply Wp.ret | apply Wp.skip)
theorem head_at {l : List DesA} (h : 0 < l.length) : (l.map DesA.av)[0]? = some (.agg [iv (headA l).hk, .list 1 ((headA l).rows.map fun n => iv n)]) := by
 cases l with
 | nil => simp at h
 | cons a r => rfl
theorem check1_ok (l : List DesA) (h0 : 0 < l.length) (d : DesA) : lim F 55 [d.av, .iptr (.agg [.list 2 (l.map DesA.av)]) 0] = some (.bool (!likeB l d), []) := by
 have hg := head_at h0
 have hln : (l.map DesA.av).length = l.length := by simp
 unfold likeB DesA.av
 have n1 : (d.rows.map fun n => iv n).length = d.rows.length := by simp
 have n2 : ((headA l).rows.map fun n => iv n).length = (headA l).rows.length := by simp
 change (l.map fun d : DesA => AV.agg [iv d.hk, .list 1 (d.rows.map fun n => iv n)])[0]? = _ at hg
 generalize (l.map fun d : DesA => AV.agg [iv d.hk, .list 1 (d.rows.map fun n => iv n)]) = es at *
 generalize (headA l).rows.map (fun n => iv n) = r2 at *
 generalize d.rows.map (fun n => iv n) = r1 at *
 by_cases h1 : d.hk = (headA l).hk
 ·by_cases h2 : d.rows.length = (headA l).rows.length
  ·refine lim_by (fn := a55) (k := 2) (res := [.tmp 3]) rfl rfl rfl (by simp -implicitDefEqProofs (maxSteps := 2000000) (disch := first | exact tt_rfl rfl | omega | (simp only [go_sem] <;> omega) | fail) only [go_sem]) ?_
   try delta mvA
   try delta opA
   try delta tA
   simp -implicitDefEqProofs (maxSteps := 2000000) (disch := first | exact tt_rfl rfl | omega | (simp only [go_sem] <;> omega) | fail) only [go_sem]
   repeat (first | apply Wp.seqA | apply Wp.skipS | apply Wp.blockS | ((first | apply Wp.regS | apply Wp.condV | apply Wp.reg | apply Wp.condW | apply fin_ret); simp -implicitDefEqProofs (maxSteps := 2000000) (disch := first | exact tt_rfl rfl | omega | (simp only [go_sem] <;> omega) | fail) only [go_sem, hg, h1, n1, n2, h2] <;> try with_reducible rfl) | apply Wp.block | apply Wp.exitS | apply Wp.retS | apply Wp.exit | apply Wp.ret | apply Wp.skip)
  ·refine lim_by (fn := a55) (k := 2) (res := [.tmp 3]) rfl rfl rfl (by simp -implicitDefEqProofs (maxSteps := 2000000) (disch := first | exact tt_rfl rfl | omega | (simp only [go_sem] <;> omega) | fail) only [go_sem]) ?_
   try delta mvA
   try delta opA
   try delta tA
   simp -implicitDefEqProofs (maxSteps := 2000000) (disch := first | exact tt_rfl rfl | omega | (simp only [go_sem] <;> omega) | fail) only [go_sem]
   repeat (first | apply Wp.seqA | apply Wp.skipS | apply Wp.blockS | ((first | apply Wp.regS | apply Wp.condV | apply Wp.reg | apply Wp.condW | apply fin_ret); simp -implicitDefEqProofs (maxSteps := 2000000) (disch := first | exact tt_rfl rfl | omega | (simp only [go_sem] <;> omega) | fail) only [go_sem, hg, h1, n1, n2, h2, show ¬ ((d.rows.length : Int) = ((headA l).rows.length : Int)) by omega, and_false] <;> try with_reducible rfl) | apply Wp.block | apply Wp.exitS | apply Wp.retS | apply Wp.exit | apply Wp.ret | apply Wp.skip)
 ·refine lim_by (fn := a55) (k := 2) (res := [.tmp 3]) rfl rfl rfl (by simp -implicitDefEqProofs (maxSteps := 2000000) (disch := first | exact tt_rfl rfl | omega | (simp only [go_sem] <;> omega) | fail) only [go_sem]) ?_
  try delta mvA
  try delta opA
  try delta tA
  simp -implicitDefEqProofs (maxSteps := 2000000) (disch := first | exact tt_rfl rfl | omega | (simp only [go_sem] <;> omega) | fail) only [go_sem]
  repeat (first | apply Wp.seqA | apply Wp.skipS | apply Wp.blockS | ((first | apply Wp.regS | apply Wp.condV | apply Wp.reg | apply Wp.condW | apply fin_ret); simp -implicitDefEqProofs (maxSteps := 2000000) (disch := first | exact tt_rfl rfl | omega | (simp only [go_sem] <;> omega) | fail) only [go_sem, hg, h1, n1, n2, false_and] <;> try with_reducible rfl) | apply Wp.block | apply Wp.exitS | apply Wp.retS | apply Wp.exit | apply Wp.ret | apply Wp.skip)
theorem Check_ok (l : List DesA) (hl : l.length ≤ 1000) (hr : ∀ d ∈ l, d.rows.length ≤ 1000000) : lim F 39 [.list 2 (l.map DesA.av)] = some (iv (checkS l), []) := by
 have hln : (l.map DesA.av).length = l.length := by simp
 have hg := fun i (h : i < l.length) => set_at h
 have hC := fun i (h : i < l.length) => setE_ok l[i] (hr _ (List.getElem_mem h))
 unfold checkS
 by_cases h1 : 10 < l.length
 ·generalize l.map DesA.av = es at *
  refine lim_by (fn := a39) (k := 1) (res := [.tmp 2]) rfl rfl rfl (by simp -implicitDefEqProofs (maxSteps := 2000000) (disch := first | exact tt_rfl rfl | omega | (simp only [go_sem] <;> omega) | fail) only [go_sem]) ?_
  try delta mvA
  try delta opA
  try delta tA
  simp -implicitDefEqProofs (maxSteps := 2000000) (disch := first | exact tt_rfl rfl | omega | (simp only [go_sem] <;> omega) | fail) only [go_sem]
  repeat (first | apply Wp.seqA | apply Wp.skipS | apply Wp.blockS | ((first | apply Wp.regS | apply Wp.condV | apply Wp.reg | apply Wp.condW | apply fin_ret); simp -implicitDefEqProofs (maxSteps := 2000000) (disch := first | exact tt_rfl rfl | omega | (simp only [go_sem] <;> omega) | fail) only [go_sem, hln, h1, show (10 : Int) < l.length by omega] <;> try with_reducible rfl) | apply Wp.block | apply Wp.exitS | apply Wp.retS | apply Wp.exit | apply Wp.ret | apply Wp.skip)
 by_cases h2 : l.length = 0
 ·generalize l.map DesA.av = es at *
  refine lim_by (fn := a39) (k := 1) (res := [.tmp 2]) rfl rfl rfl (by simp -implicitDefEqProofs (maxSteps := 2000000) (disch := first | exact tt_rfl rfl | omega | (simp only [go_sem] <;> omega) | fail) only [go_sem]) ?_
  try delta mvA
  try delta opA
  try delta tA
  simp -implicitDefEqProofs (maxSteps := 2000000) (disch := first | exact tt_rfl rfl | omega | (simp only [go_sem] <;> omega) | fail) only [go_sem]
  repeat (first | apply Wp.seqA | apply Wp.skipS | apply Wp.blockS | ((first | apply Wp.regS | apply Wp.condV | apply Wp.reg | apply Wp.condW | apply fin_ret); simp -implicitDefEqProofs (maxSteps := 2000000) (disch := first | exact tt_rfl rfl | omega | (simp only [go_sem] <;> omega) | fail) only [go_sem, hln, h1, h2, Int.natCast_zero] <;> try with_reducible rfl) | apply Wp.block | apply Wp.exitS | apply Wp.retS | apply Wp.exit | apply Wp.ret | apply Wp.skip)
 rw [if_neg h1, if_neg h2]
 have hA := contains_sets l (fun d => !likeB l d) 55 (.agg [.list 2 (l.map DesA.av)]) (by omega) (fun d _ => check1_ok l (by omega) d)
 have hany : (l.any fun d => !likeB l d) = !l.all (likeB l) := by rw [List.all_eq_not_any_not, Bool.not_not]
 rw [hany] at hA
 unfold DesA.av at hC
 generalize l.map DesA.av = es at *
 refine lim_by (fn := a39) (k := 1) (res := [.tmp 2]) rfl rfl rfl (by simp -implicitDefEqProofs (maxSteps := 2000000) (disch := first | exact tt_rfl rfl | omega | (simp only [go_sem] <;> omega) | fail) only [go_sem]) ?_
 try delta mvA
 try delta opA
 try delta tA
 simp -implicitDefEqProofs (maxSteps := 2000000) (disch := first | exact tt_rfl rfl | omega | (simp only [go_sem] <;> omega) | fail) only [go_sem]
 repeat (first | apply Wp.seqA | apply Wp.skipS | apply Wp.blockS | ((first | apply Wp.regS | apply Wp.condV | apply Wp.reg | apply Wp.condW | apply fin_ret); simp -implicitDefEqProofs (maxSteps := 2000000) (disch := first | exact tt_rfl rfl | omega | (simp only [go_sem] <;> omega) | fail) only [go_sem, hln, show ¬ (10 : Int) < l.length by omega, show ¬ (l.length : Int) = 0 by omega] <;> try with_reducible rfl) | apply Wp.block | apply Wp.exitS | apply Wp.retS | apply Wp.exit | apply Wp.ret | apply Wp.skip)
 apply Wp.loopF l.length (fun i => ⟨[(1, .ptr 64 0 0), (15, .list 2 es), (16, iv (l.length : Int)), (17, iv (i : Int))], [(64, .box [.list 2 es])], [], 10000000⟩) (fun i => ∀ j (hj : j < l.length), j < i → checkD l[j] = 0)
 ·simp -implicitDefEqProofs (maxSteps := 2000000) (disch := first | exact tt_rfl rfl | omega | (simp only [go_sem] <;> omega) | fail) only [go_sem, norm_eq, Ok.some]
  rfl
 ·intro j hj h; omega
 intro i hi hn
 by_cases h : i < l.length
 ·have a1 := hg i h
  have a2 := hC i h
  by_cases hc : checkD l[i] = 0
  ·rw [hc] at a2
   repeat (first | apply Wp.seqA | apply Wp.skipS | apply Wp.blockS | ((first | apply Wp.regS | apply Wp.condV | apply Wp.reg | apply Wp.condW | apply fin_ret); simp -implicitDefEqProofs (maxSteps := 2000000) (disch := first | exact tt_rfl rfl | omega | (simp only [go_sem] <;> omega) | fail) only [go_sem, h, Int.ofNat_lt, a1, a2, hln] <;> try with_reducible rfl) | apply Wp.block | apply Wp.exitS | apply Wp.retS | apply Wp.exit | apply Wp.ret | apply Wp.skip)
   apply round_next
   ·simp -implicitDefEqProofs (maxSteps := 2000000) (disch := first | exact tt_rfl rfl | omega | (simp only [go_sem] <;> omega) | fail) only [go_sem, norm_eq, Ok.some]; with_reducible rfl
   refine ⟨h, by simp, fun j hj hji => ?_⟩
   by_cases e : j = i
   ·subst e; exact hc
   ·exact hn j hj (by omega)
  ·rw [firstE_at h hn hc, if_pos hc]
   generalize checkD l[i] = c at *
   repeat (first | apply Wp.seqA | apply Wp.skipS | apply Wp.blockS | ((first | apply Wp.regS | apply Wp.condV | apply Wp.reg | apply Wp.condW | apply fin_ret); simp -implicitDefEqProofs (maxSteps := 2000000) (disch := first | exact tt_rfl rfl | omega | (simp only [go_sem] <;> omega) | fail) only [go_sem, h, Int.ofNat_lt, a1, a2, hln, hc] <;> try with_reducible rfl) | apply Wp.block | apply Wp.exitS | apply Wp.retS | apply Wp.exit | apply Wp.ret | apply Wp.skip)
 ·rw [firstE_none fun j hj => hn j hj (by omega), if_neg (by simp)]
  cases hb : l.all (likeB l)
  all_goals
   rw [hb] at hA
   repeat (first | apply Wp.seqA | apply Wp.skipS | apply Wp.blockS | ((first | apply Wp.regS | apply Wp.condV | apply Wp.reg | apply Wp.condW | apply fin_ret); simp -implicitDefEqProofs (maxSteps := 2000000) (disch := first | exact tt_rfl rfl | omega | (simp only [go_sem] <;> omega) | fail) only [go_sem, h, Int.ofNat_lt, hA] <;> try with_reducible rfl) | apply Wp.block | apply Wp.exitS | apply Wp.retS | apply Wp.exit | apply Wp.ret | apply Wp.skip)
end Go.Abs.Cp

set_option linter.all false
namespace Go.Abs.Cp
set_option maxRecDepth 10000
set_option maxHeartbeats 4000000

def turnL (t : Bool) (hk : Nat) (l : List Nat) : List Nat := l.map (turnR t hk)
@[simp] theorem turnL_len (t : Bool) (hk : Nat) (l : List Nat) : (turnL t hk l).length = l.length := by simp [turnL]
theorem turnL_at (t : Bool) (hk : Nat) (l : List Nat) {i : Nat} (h : i < l.length) : (turnL t hk l).getD i 0 = turnR t hk (l.getD i 0) := by
 unfold turnL
 rw [rows_get (by simpa using h), rows_get h, List.getElem_map]
/-- while it is turned -/
def turnTo (t : Bool) (hk : Nat) (l : List Nat) (i : Nat) : List AV := (List.range l.length).map fun q => iv ((if q < i then turnR t hk (l.getD q 0) else l.getD q 0 : Nat) : Int)
theorem turnTo_zero (t : Bool) (hk : Nat) (l : List Nat) : turnTo t hk l 0 = natsV l := by
 unfold turnTo natsV
 apply List.ext_getElem
 ·simp
 ·intro i h1 h2
  have hi : i < l.length := by simpa using h1
  simp only [List.getElem_map, List.getElem_range, Nat.not_lt_zero, if_false, rows_get hi]
theorem turnTo_end (t : Bool) (hk : Nat) (l : List Nat) : turnTo t hk l l.length = natsV (turnL t hk l) := by
 unfold turnTo natsV turnL
 apply List.ext_getElem
 ·simp
 ·intro i h1 h2
  have hi : i < l.length := by simpa using h1
  simp only [List.getElem_map, List.getElem_range, if_pos hi, rows_get hi]
@[simp] theorem turnTo_len (t : Bool) (hk : Nat) (l : List Nat) (i : Nat) : (turnTo t hk l i).length = l.length := by simp [turnTo]
theorem turnTo_at {t : Bool} {hk : Nat} {l : List Nat} {i : Nat} (h : i < l.length) : (turnTo t hk l i)[i]? = some (iv ((l.getD i 0 : Nat) : Int)) := by
 unfold turnTo
 rw [List.getElem?_map, List.getElem?_range h]
 simp
theorem turnTo_set {t : Bool} {hk : Nat} {l : List Nat} {i : Nat} (h : i < l.length) : (turnTo t hk l i).set i (iv ((turnR t hk (l.getD i 0) : Nat) : Int)) = turnTo t hk l (i + 1) := by
 unfold turnTo
 apply List.ext_getElem
 ·simp
 ·intro q h1 h2
  rw [List.getElem_set]
  simp only [List.getElem_map, List.getElem_range]
  by_cases e : i = q
  ·subst e
   rw [if_pos rfl, if_pos (by omega)]
  ·rw [if_neg e]
   by_cases hq : q < i
   ·rw [if_pos hq, if_pos (by omega)]
   ·rw [if_neg hq, if_neg (by omega)]
theorem turnTo_same {hk : Nat} {l : List Nat} {i : Nat} : turnTo false hk l (i + 1) = turnTo false hk l i := by
 unfold turnTo turnR
 simp
theorem Clone_ok (x : AV) (l : List AV) (hl : l.length ≤ 1000000) : lim F 57 [.list 1 (x :: l)] = some (.own 1 (x :: l), []) := by
 refine lim_by (fn := a57) (k := 1) (res := [.tmp 2]) rfl rfl rfl (by simp -implicitDefEqProofs (maxSteps := 2000000) (disch := first | exact tt_rfl rfl | omega | (simp only [go_sem] <;> omega) | fail) only [go_sem]) ?_
 try delta mvA
 try delta opA
 try delta tA
 simp -implicitDefEqProofs (maxSteps := 2000000) (disch := first | exact tt_rfl rfl | omega | (simp only [go_sem] <;> omega) | fail) only [go_sem]
 repeat (first | apply Wp.seqA | apply Wp.skipS | apply Wp.blockS | ((first | apply Wp.regS | apply Wp.condV | apply Wp.reg | apply Wp.condW | apply fin_ret); simp -implicitDefEqProofs (maxSteps := 2000000) (disch := first | exact tt_rfl rfl | omega | (simp only [go_sem] <;> omega) | fail) only [go_sem, List.length_cons, show isNilV false (.list 1 (x :: l)) = some ⟨.bool false, [], []⟩ from rfl] <;> try with_reducible rfl) | apply Wp.block | apply Wp.exitS | apply Wp.retS | apply Wp.exit | apply Wp.ret | apply Wp.skip)
theorem cloneN_ok (l : List Nat) (hl : l.length ≤ 1000) (h1 : 1 ≤ l.length) : lim F 57 [.list 1 (natsV l)] = some (.own 1 (natsV l), []) := by
 cases l with
 | nil => simp at h1
 | cons a r =>
  exact Clone_ok (iv (a : Int)) (r.map fun n : Nat => iv (n : Int)) (by simp at hl ⊢; omega)
theorem turn_ok (t : Bool) (hk : Nat) (hh : hk ≤ 24) (l : List Nat) (hl : l.length ≤ 1000) (h1 : 1 ≤ l.length) (hlt : ∀ r ∈ l, r < 2 ^ hk) : lim F 40 [.agg [iv (hk : Int), .bool t], .list 1 (natsV l)] = some (.own 1 (natsV (turnL t hk l)), []) := by
 have hc := cloneN_ok l hl h1
 have ha := all_ok hk hh
 have hp24 : 2 ^ hk ≤ 2 ^ 24 := Nat.pow_le_pow_right (by omega) hh
 have hp0 : 0 < 2 ^ hk := Nat.pow_pos (by omega)
 have em : ((2 ^ hk : Nat) : Int) - 1 = ((2 ^ hk - 1 : Nat) : Int) := by omega
 rw [em] at ha
 have hn := turnTo_len t hk l
 have hz := turnTo_zero t hk l
 have he := turnTo_end t hk l
 have hat := fun i (h : i < l.length) => turnTo_at (t := t) (hk := hk) h
 have hset := fun i (h : i < l.length) => turnTo_set (t := t) (hk := hk) h
 have hR : ∀ i (h : i < l.length), l.getD i 0 < 2 ^ hk := fun i h => by rw [rows_get h]; exact hlt _ (List.getElem_mem h)
 have hpl := nats_plain (turnL t hk l)
 have hnl : (natsV l).length = l.length := by simp
 refine lim_by (fn := a40) (k := 2) (res := [.tmp 4]) rfl rfl rfl (by simp -implicitDefEqProofs (maxSteps := 2000000) (disch := first | exact tt_rfl rfl | omega | (simp only [go_sem] <;> omega) | fail) only [go_sem]) ?_
 try delta mvA
 try delta opA
 try delta tA
 simp -implicitDefEqProofs (maxSteps := 2000000) (disch := first | exact tt_rfl rfl | omega | (simp only [go_sem] <;> omega) | fail) only [go_sem]
 repeat (first | apply Wp.seqA | apply Wp.skipS | apply Wp.blockS | ((first | apply Wp.regS | apply Wp.condV | apply Wp.reg | apply Wp.condW | apply fin_ret); simp -implicitDefEqProofs (maxSteps := 2000000) (disch := first | exact tt_rfl rfl | omega | (simp only [go_sem] <;> omega) | fail) only [go_sem, hc, hnl] <;> try with_reducible rfl) | apply Wp.block | apply Wp.exitS | apply Wp.retS | apply Wp.exit | apply Wp.ret | apply Wp.skip)
 apply Wp.loopF l.length (fun i => ⟨[(2, .ptr 128 0 0), (5, .slice 320 0 l.length), (10, iv (l.length : Int)), (11, iv (i : Int))], [(128, .box [iv (hk : Int), .bool t]), (320, .arr 1 (turnTo t hk l i))], [], 10000000⟩) (fun _ => True)
 ·simp -implicitDefEqProofs (maxSteps := 2000000) (disch := first | exact tt_rfl rfl | omega | (simp only [go_sem] <;> omega) | fail) only [go_sem, norm_eq, Ok.some]
  rw [hz]; rfl
 ·trivial
 intro i hi _
 by_cases h : i < l.length
 ·have a1 := hat i h
  have a2 := hset i h
  have hr := hR i h
  have h3 := hn i
  cases t with
  | false =>
   have a4 : turnTo false hk l (i + 1) = turnTo false hk l i := turnTo_same
   rw [a4]
   generalize turnTo false hk l i = L at *
   repeat (first | apply Wp.seqA | apply Wp.skipS | apply Wp.blockS | ((first | apply Wp.regS | apply Wp.condV | apply Wp.reg | apply Wp.condW | apply fin_ret); simp -implicitDefEqProofs (maxSteps := 2000000) (disch := first | exact tt_rfl rfl | omega | (simp only [go_sem] <;> omega) | fail) only [go_sem, h, Int.ofNat_lt] <;> try with_reducible rfl) | apply Wp.block | apply Wp.exitS | apply Wp.retS | apply Wp.exit | apply Wp.ret | apply Wp.skip)
   apply round_next
   ·simp -implicitDefEqProofs (maxSteps := 2000000) (disch := first | exact tt_rfl rfl | omega | (simp only [go_sem] <;> omega) | fail) only [go_sem, norm_eq, Ok.some]; with_reducible rfl
   exact ⟨h, by simp, trivial⟩
  | true =>
   have w := w_xor (l.getD i 0) (2 ^ hk - 1) (by omega) (by omega)
   have e1 : turnR true hk (l.getD i 0) = l.getD i 0 ^^^ (2 ^ hk - 1) := by unfold turnR; rw [if_pos rfl]
   rw [e1] at a2
   rw [← a2]
   generalize turnTo true hk l i = L at *
   generalize l.getD i 0 ^^^ (2 ^ hk - 1) = y at *
   generalize l.getD i 0 = r at *
   generalize 2 ^ hk - 1 = al at *
   repeat (first | apply Wp.seqA | apply Wp.skipS | apply Wp.blockS | ((first | apply Wp.regS | apply Wp.condV | apply Wp.reg | apply Wp.condW | apply fin_ret); simp -implicitDefEqProofs (maxSteps := 2000000) (disch := first | exact tt_rfl rfl | omega | (simp only [go_sem] <;> omega) | fail) only [go_sem, h, Int.ofNat_lt, a1, h3, ha, w] <;> try with_reducible rfl) | apply Wp.block | apply Wp.exitS | apply Wp.retS | apply Wp.exit | apply Wp.ret | apply Wp.skip)
   apply round_next
   ·simp -implicitDefEqProofs (maxSteps := 2000000) (disch := first | exact tt_rfl rfl | omega | (simp only [go_sem] <;> omega) | fail) only [go_sem, norm_eq, Ok.some]; with_reducible rfl
   exact ⟨h, by simp, trivial⟩
 ·obtain rfl : i = l.length := by omega
  have h3 := hn l.length
  rw [he]
  rw [he] at h3
  have htk : (natsV (turnL t hk l)).take l.length = natsV (turnL t hk l) := List.take_of_length_le (by omega)
  generalize natsV (turnL t hk l) = L at *
  repeat (first | apply Wp.seqA | apply Wp.skipS | apply Wp.blockS | ((first | apply Wp.regS | apply Wp.condV | apply Wp.reg | apply Wp.condW | apply fin_ret); simp -implicitDefEqProofs (maxSteps := 2000000) (disch := first | exact tt_rfl rfl | omega | (simp only [go_sem] <;> omega) | fail) only [go_sem, Int.lt_irrefl, h3, hpl, htk] <;> try with_reducible rfl) | apply Wp.block | apply Wp.exitS | apply Wp.retS | apply Wp.exit | apply Wp.ret | apply Wp.skip)
end Go.Abs.Cp
