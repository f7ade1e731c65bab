/-
 Several texts: M9a, V4.
-/
import Derived.Test.YthafpdlfdkddpaaDoorV3
set_option linter.all false
namespace Go.Abs
set_option maxRecDepth 10000

def besideN (a b : DesN) : DesN := ⟨a.hk + b.hk, (List.range a.rows.length).map fun i => a.rows.getD i 0 ||| b.rows.getD i 0 * 2 ^ a.hk⟩
def aboveN (a b : DesN) : DesN := ⟨a.hk, a.rows ++ b.rows⟩
def reflH (d : DesN) : Nat := d.hk + (d.hk - 2)
def reflectN (d : DesN) : DesN := madeN (fun p h => atN d p (min h (reflH d - h))) d.rows.length (reflH d)
end Go.Abs

set_option linter.all false
namespace Go.Abs
set_option maxRecDepth 10000
set_option maxHeartbeats 4000000

/-- the first error -/
def firstE : List DesA → Int
 | [] => 0
 | d :: l => if checkD d ≠ 0 then checkD d else firstE l
theorem firstE_at : ∀ {l : List DesA} {i : Nat} (h : i < l.length), (∀ j (hj : j < l.length), j < i → checkD l[j] = 0) → checkD l[i] ≠ 0 → firstE l = checkD l[i]
 | d :: l, 0, _, _, h => by
  unfold firstE
  exact if_pos h
 | d :: l, i + 1, hi, hj, h => by
  have h0 := hj 0 (by simp) (by omega)
  unfold firstE
  rw [if_neg (by simpa using h0)]
  exact firstE_at (l := l) (i := i) (by simpa using hi) (fun j hj' hji => hj (j + 1) (by simpa using hj') (by omega)) h
theorem firstE_none : ∀ {l : List DesA}, (∀ j (hj : j < l.length), checkD l[j] = 0) → firstE l = 0
 | [], _ => rfl
 | d :: l, hj => by
  have h0 := hj 0 (by simp)
  unfold firstE
  rw [if_neg (by simpa using h0)]
  exact firstE_none fun j hj' => hj (j + 1) (by simpa using hj')
theorem av_at {l : List DesA} {i : Nat} (h : i < l.length) : (l.map DesA.av)[i]? = some (.agg [iv l[i].hk, .list 1 (l[i].rows.map fun n => iv n)]) := by
 rw [List.getElem?_map, List.getElem?_eq_getElem h]; rfl
theorem checkL_ok (l : List DesA) (hl : l.length ≤ 1000) (hr : ∀ d ∈ l, d.rows.length ≤ 1000) : lim F 22 [.list 2 (l.map DesA.av)] = some (iv (firstE l), []) := by
 have hln : (l.map DesA.av).length = l.length := by simp
 have hg := fun i (h : i < l.length) => av_at h
 have hC := fun i (h : i < l.length) => Check_ok l[i] (by have := hr _ (List.getElem_mem h); omega)
 unfold DesA.av at hC
 generalize l.map DesA.av = es at *
 refine lim_by (fn := a22) (k := 1) (res := [.tmp 2]) rfl rfl rfl (by simp -implicitDefEqProofs (maxSteps := 2000000) (disch := first | exact tt_rfl rfl | omega | (simp only [go_sem] <;> omega) | fail) only [go_sem]) ?_
 try delta mvA
 try delta opA
 try delta tA
 simp -implicitDefEqProofs (maxSteps := 2000000) (disch := first | exact tt_rfl rfl | omega | (simp only [go_sem] <;> omega) | fail) only [go_sem]
 repeat (first | apply Wp.seqA | apply Wp.skipS | apply Wp.blockS | ((first | apply Wp.regS | apply Wp.condV | apply Wp.reg | apply Wp.condW | apply fin_ret); simp -implicitDefEqProofs (maxSteps := 2000000) (disch := first | exact tt_rfl rfl | omega | (simp only [go_sem] <;> omega) | fail) only [go_sem, hln] <;> try with_reducible rfl) | apply Wp.block | apply Wp.exitS | apply Wp.retS | apply Wp.exit | apply Wp.ret | apply Wp.skip)
 apply Wp.loopF l.length (fun i => ⟨[(6, .list 2 es), (7, iv (l.length : Int)), (8, iv (i : Int))], [], [], 10000000⟩) (fun i => ∀ j (hj : j < l.length), j < i → checkD l[j] = 0)
 ·simp -implicitDefEqProofs (maxSteps := 2000000) (disch := first | exact tt_rfl rfl | omega | (simp only [go_sem] <;> omega) | fail) only [go_sem, norm_eq, Ok.some]
  rfl
 ·intro j hj h; omega
 intro i hi hn
 by_cases h : i < l.length
 ·have h1 := hg i h
  have h2 := hC i h
  by_cases hc : checkD l[i] = 0
  ·rw [hc] at h2
   repeat (first | apply Wp.seqA | apply Wp.skipS | apply Wp.blockS | ((first | apply Wp.regS | apply Wp.condV | apply Wp.reg | apply Wp.condW | apply fin_ret); simp -implicitDefEqProofs (maxSteps := 2000000) (disch := first | exact tt_rfl rfl | omega | (simp only [go_sem] <;> omega) | fail) only [go_sem, h, Int.ofNat_lt, h1, h2, hln] <;> try with_reducible rfl) | apply Wp.block | apply Wp.exitS | apply Wp.retS | apply Wp.exit | apply Wp.ret | apply Wp.skip)
   apply round_next
   ·simp -implicitDefEqProofs (maxSteps := 2000000) (disch := first | exact tt_rfl rfl | omega | (simp only [go_sem] <;> omega) | fail) only [go_sem, norm_eq, Ok.some]; with_reducible rfl
   refine ⟨h, by simp, fun j hj hji => ?_⟩
   by_cases e : j = i
   ·subst e; exact hc
   ·exact hn j hj (by omega)
  ·rw [firstE_at h hn hc]
   generalize checkD l[i] = c at *
   repeat (first | apply Wp.seqA | apply Wp.skipS | apply Wp.blockS | ((first | apply Wp.regS | apply Wp.condV | apply Wp.reg | apply Wp.condW | apply fin_ret); simp -implicitDefEqProofs (maxSteps := 2000000) (disch := first | exact tt_rfl rfl | omega | (simp only [go_sem] <;> omega) | fail) only [go_sem, h, Int.ofNat_lt, h1, h2, hln, hc] <;> try with_reducible rfl) | apply Wp.block | apply Wp.exitS | apply Wp.retS | apply Wp.exit | apply Wp.ret | apply Wp.skip)
 ·rw [firstE_none fun j hj => hn j hj (by omega)]
  repeat (first | apply Wp.seqA | apply Wp.skipS | apply Wp.blockS | ((first | apply Wp.regS | apply Wp.condV | apply Wp.reg | apply Wp.condW | apply fin_ret); simp -implicitDefEqProofs (maxSteps := 2000000) (disch := first | exact tt_rfl rfl | omega | (simp only [go_sem] <;> omega) | fail) only [go_sem, h, Int.ofNat_lt] <;> try with_reducible rfl) | apply Wp.block | apply Wp.exitS | apply Wp.retS | apply Wp.exit | apply Wp.ret | apply Wp.skip)
/-! ### Beside -/
def besE (a b : DesA) : Int := if firstE [a, b] ≠ 0 then firstE [a, b] else if a.rows.length ≠ b.rows.length then 4 else if a.hk + b.hk > 24 then 8 else 0
theorem first2_n {a b : DesN} (ha : a.Ok) (hb : b.Ok) : firstE [a.a, b.a] = 0 := by
 unfold firstE
 rw [if_neg (by rw [checkD_ok ha]; simp)]
 unfold firstE
 rw [if_neg (by rw [checkD_ok hb]; simp)]; rfl
/-! ### Above -/
theorem Grow_ok (n : Nat) (h0 : 0 < n) (hn : n ≤ 1000) : lim F 46 [.const (.slice none 0 0), iv (n : Int)] = some (.own 1 [], []) := by
 have hpl : (List.replicate n (AV.int .i64 0)).all AV.plain = true := by simp [AV.plain, AV.plain1]
 have hex : ∀ id, exSl id 0 0 (.arr 1 (List.replicate n (AV.int .i64 0))) = some ⟨.own 1 [], [id], []⟩ := fun id => exSl_prefix id 0 1 _ (by rw [List.length_replicate]; exact h0)
 refine lim_by (fn := a46) (k := 2) (res := [.tmp 4]) rfl rfl rfl (by simp -implicitDefEqProofs (maxSteps := 2000000) (disch := first | exact tt_rfl rfl | omega | (simp only [go_sem] <;> omega) | fail) only [go_sem]) ?_
 try delta mvA
 try delta opA
 try delta tA
 simp -implicitDefEqProofs (maxSteps := 2000000) (disch := first | exact tt_rfl rfl | omega | (simp only [go_sem] <;> omega) | fail) only [go_sem]
 repeat (first | apply Wp.seqA | apply Wp.skipS | apply Wp.blockS | ((first | apply Wp.regS | apply Wp.condV | apply Wp.reg | apply Wp.condW | apply fin_ret); simp -implicitDefEqProofs (maxSteps := 2000000) (disch := first | exact tt_rfl rfl | omega | (simp only [go_sem] <;> omega) | fail) only [go_sem, Int.sub_zero, hpl, hex, show ¬ (n : Int) < 0 by omega, show (0 : Int) < n by omega] <;> try with_reducible rfl) | apply Wp.block | apply Wp.exitS | apply Wp.retS | apply Wp.exit | apply Wp.ret | apply Wp.skip)
theorem Concat_ok (a b : List Nat) (ha : 0 < a.length) (hab : a.length + b.length ≤ 1000) : lim F 28 [.list 1 [.list 1 (natsV a), .list 1 (natsV b)]] = some (.own 1 (natsV (a ++ b)), []) := by
 have hG := Grow_ok (a.length + b.length) (by omega) hab
 have hla : (natsV a).length = a.length := by simp
 have hlb : (natsV b).length = b.length := by simp
 have hap : natsV (a ++ b) = natsV a ++ natsV b := by unfold natsV; rw [List.map_append]
 have hpl : (natsV a ++ natsV b).all AV.plain = true := by rw [← hap]; exact nat_plain (a ++ b)
 rw [hap]
 have esum : (a.length : Int) + (b.length : Int) = ((a.length + b.length : Nat) : Int) := by omega
 generalize natsV a = as' at *
 generalize natsV b = bs' at *
 refine lim_by (fn := a28) (k := 1) (res := [.tmp 2]) rfl rfl rfl (by simp -implicitDefEqProofs (maxSteps := 2000000) (disch := first | exact tt_rfl rfl | omega | (simp only [go_sem] <;> omega) | fail) only [go_sem]) ?_
 try delta mvA
 try delta opA
 try delta tA
 simp -implicitDefEqProofs (maxSteps := 2000000) (disch := first | exact tt_rfl rfl | omega | (simp only [go_sem] <;> omega) | fail) only [go_sem]
 repeat (first | apply Wp.seqA | apply Wp.skipS | apply Wp.blockS | ((first | apply Wp.regS | apply Wp.condV | apply Wp.reg | apply Wp.condW | apply fin_ret); simp -implicitDefEqProofs (maxSteps := 2000000) (disch := first | exact tt_rfl rfl | omega | (simp only [go_sem] <;> omega) | fail) only [go_sem, hla, hlb] <;> try with_reducible rfl) | apply Wp.block | apply Wp.exitS | apply Wp.retS | apply Wp.exit | apply Wp.ret | apply Wp.skip)
 apply Wp.loopF 2 (fun i => ⟨[(0, .list 1 [.list 1 as', .list 1 bs']), (3, iv ((if i = 0 then 0 else if i = 1 then a.length else a.length + b.length : Nat) : Int)), (9, .list 1 [.list 1 as', .list 1 bs']), (10, iv 2), (11, iv (i : Int))], [], [], 10000000⟩) (fun _ => True)
 ·simp -implicitDefEqProofs (maxSteps := 2000000) (disch := first | exact tt_rfl rfl | omega | (simp only [go_sem] <;> omega) | fail) only [go_sem, norm_eq, Ok.some]
  rfl
 ·trivial
 intro i hi _
 have : i = 0 ∨ i = 1 ∨ i = 2 := by omega
 rcases this with rfl | rfl | rfl
 ·repeat (first | apply Wp.seqA | apply Wp.skipS | apply Wp.blockS | ((first | apply Wp.regS | apply Wp.condV | apply Wp.reg | apply Wp.condW | apply fin_ret); simp -implicitDefEqProofs (maxSteps := 2000000) (disch := first | exact tt_rfl rfl | omega | (simp only [go_sem] <;> omega) | fail) only [go_sem, hla, hlb, show ¬ (a.length : Int) < 0 by omega, Int.zero_add] <;> try with_reducible rfl) | apply Wp.block | apply Wp.exitS | apply Wp.retS | apply Wp.exit | apply Wp.ret | apply Wp.skip)
  apply round_next
  ·simp -implicitDefEqProofs (maxSteps := 2000000) (disch := first | exact tt_rfl rfl | omega | (simp only [go_sem] <;> omega) | fail) only [go_sem, norm_eq, Ok.some]; with_reducible rfl
  exact ⟨by omega, by simp, trivial⟩
 ·repeat (first | apply Wp.seqA | apply Wp.skipS | apply Wp.blockS | ((first | apply Wp.regS | apply Wp.condV | apply Wp.reg | apply Wp.condW | apply fin_ret); simp -implicitDefEqProofs (maxSteps := 2000000) (disch := first | exact tt_rfl rfl | omega | (simp only [go_sem] <;> omega) | fail) only [go_sem, hla, hlb, esum] <;> try with_reducible rfl) | apply Wp.block | apply Wp.exitS | apply Wp.retS | apply Wp.exit | apply Wp.ret | apply Wp.skip)
  apply round_next
  ·simp -implicitDefEqProofs (maxSteps := 2000000) (disch := first | exact tt_rfl rfl | omega | (simp only [go_sem] <;> omega) | fail) only [go_sem, norm_eq, Ok.some]; with_reducible rfl
  exact ⟨by omega, by simp, trivial⟩
 ·repeat (first | apply Wp.seqA | apply Wp.skipS | apply Wp.blockS | ((first | apply Wp.regS | apply Wp.condV | apply Wp.reg | apply Wp.condW | apply fin_ret); simp -implicitDefEqProofs (maxSteps := 2000000) (disch := first | exact tt_rfl rfl | omega | (simp only [go_sem] <;> omega) | fail) only [go_sem, hla, hlb, hG] <;> try with_reducible rfl) | apply Wp.block | apply Wp.exitS | apply Wp.retS | apply Wp.exit | apply Wp.ret | apply Wp.skip)
  apply Wp.loopF 2 (fun i => ⟨[(6, .slice 384 0 (if i = 0 then 0 else if i = 1 then a.length else a.length + b.length)), (25, .list 1 [.list 1 as', .list 1 bs']), (26, iv 2), (27, iv (i : Int))], [(384, .arr 1 (if i = 0 then [] else if i = 1 then as' else as' ++ bs'))], [], 10000000⟩) (fun _ => True)
  ·simp -implicitDefEqProofs (maxSteps := 2000000) (disch := first | exact tt_rfl rfl | omega | (simp only [go_sem] <;> omega) | fail) only [go_sem, norm_eq, Ok.some]
   rfl
  ·trivial
  intro i hi _
  have : i = 0 ∨ i = 1 ∨ i = 2 := by omega
  rcases this with rfl | rfl | rfl
  ·repeat (first | apply Wp.seqA | apply Wp.skipS | apply Wp.blockS | ((first | apply Wp.regS | apply Wp.condV | apply Wp.reg | apply Wp.condW | apply fin_ret); simp -implicitDefEqProofs (maxSteps := 2000000) (disch := first | exact tt_rfl rfl | omega | (simp only [go_sem] <;> omega) | fail) only [go_sem, hla, hlb] <;> try with_reducible rfl) | apply Wp.block | apply Wp.exitS | apply Wp.retS | apply Wp.exit | apply Wp.ret | apply Wp.skip)
   apply round_next
   ·simp -implicitDefEqProofs (maxSteps := 2000000) (disch := first | exact tt_rfl rfl | omega | (simp only [go_sem] <;> omega) | fail) only [go_sem, norm_eq, Ok.some]; with_reducible rfl
   exact ⟨by omega, by simp [hla], trivial⟩
  ·repeat (first | apply Wp.seqA | apply Wp.skipS | apply Wp.blockS | ((first | apply Wp.regS | apply Wp.condV | apply Wp.reg | apply Wp.condW | apply fin_ret); simp -implicitDefEqProofs (maxSteps := 2000000) (disch := first | exact tt_rfl rfl | omega | (simp only [go_sem] <;> omega) | fail) only [go_sem, hla, hlb] <;> try with_reducible rfl) | apply Wp.block | apply Wp.exitS | apply Wp.retS | apply Wp.exit | apply Wp.ret | apply Wp.skip)
   apply round_next
   ·simp -implicitDefEqProofs (maxSteps := 2000000) (disch := first | exact tt_rfl rfl | omega | (simp only [go_sem] <;> omega) | fail) only [go_sem, norm_eq, Ok.some]; with_reducible rfl
   exact ⟨by omega, by simp [hla, hlb], trivial⟩
  ·have hlab : (as' ++ bs').length = a.length + b.length := by rw [List.length_append, hla, hlb]
   generalize as' ++ bs' = cs at *
   repeat (first | apply Wp.seqA | apply Wp.skipS | apply Wp.blockS | ((first | apply Wp.regS | apply Wp.condV | apply Wp.reg | apply Wp.condW | apply fin_ret); simp -implicitDefEqProofs (maxSteps := 2000000) (disch := first | exact tt_rfl rfl | omega | (simp only [go_sem] <;> omega) | fail) only [go_sem, hla, hlb, hlab, hpl] <;> try with_reducible rfl) | apply Wp.block | apply Wp.exitS | apply Wp.retS | apply Wp.exit | apply Wp.ret | apply Wp.skip)
theorem Above_ok (a b : DesN) (ha : a.Ok) (hb : b.Ok) (hk : a.hk = b.hk) (hr : a.rows.length + b.rows.length ≤ 60) : lim F 12 [a.av, b.av] = some (.tuple [(aboveN a b).out, iv 0], []) := by
 have hc := checkL_ok [a.a, b.a] (by simp) (fun d hd => by
  simp at hd
  rcases hd with rfl | rfl
  ·simp [DesN.a]; omega
  ·simp [DesN.a]; omega)
 rw [first2_n ha hb] at hc
 change lim F _ [.list 2 [a.a.av, b.a.av]] = _ at hc
 rw [DesN.a_av, DesN.a_av] at hc
 have hr1 := ha.r1
 have hC := Concat_ok a.rows b.rows (by omega) (by omega)
 have hla : (natsV a.rows).length = a.rows.length := by simp
 have hlb : (natsV b.rows).length = b.rows.length := by simp
 have hlab : (natsV (a.rows ++ b.rows)).length = a.rows.length + b.rows.length := by simp
 have hpl : (natsV (a.rows ++ b.rows)).all AV.plain = true := nat_plain _
 have htk : (natsV (a.rows ++ b.rows)).take (a.rows.length + b.rows.length) = natsV (a.rows ++ b.rows) := List.take_of_length_le (by omega)
 have hres : (aboveN a b).out = .agg [iv (a.hk : Int), .own 1 (natsV (a.rows ++ b.rows))] := rfl
 rw [hres]
 unfold DesN.av at *
 rw [← hk] at hc
 rw [← hk]
 change lim F _ [.list 2 [.agg [_, .list 1 (natsV a.rows)], .agg [_, .list 1 (natsV b.rows)]]] = _ at hc
 change lim F _ [.agg [_, .list 1 (natsV a.rows)], .agg [_, .list 1 (natsV b.rows)]] = _
 generalize natsV (a.rows ++ b.rows) = cs at *
 generalize natsV a.rows = aa at *
 generalize natsV b.rows = bs at *
 refine lim_by (fn := a12) (k := 2) (res := [.cell 4 2 true, .tmp 5]) rfl rfl rfl (by simp -implicitDefEqProofs (maxSteps := 2000000) (disch := first | exact tt_rfl rfl | omega | (simp only [go_sem] <;> omega) | fail) only [go_sem]) ?_
 try delta mvA
 try delta opA
 try delta tA
 simp -implicitDefEqProofs (maxSteps := 2000000) (disch := first | exact tt_rfl rfl | omega | (simp only [go_sem] <;> omega) | fail) only [go_sem]
 repeat (first | apply Wp.seqA | apply Wp.skipS | apply Wp.blockS | ((first | apply Wp.regS | apply Wp.condV | apply Wp.reg | apply Wp.condW | apply fin_ret); simp -implicitDefEqProofs (maxSteps := 2000000) (disch := first | exact tt_rfl rfl | omega | (simp only [go_sem] <;> omega) | fail) only [go_sem, hc, hC, hla, hlb, hlab, hpl, htk, show ¬ (60 : Int) < (a.rows.length : Int) + (b.rows.length : Int) by omega] <;> try with_reducible rfl) | apply Wp.block | apply Wp.exitS | apply Wp.retS | apply Wp.exit | apply Wp.ret | apply Wp.skip)

/-! ### Errors -/
def aboE (a b : DesA) : Int := if firstE [a, b] ≠ 0 then firstE [a, b] else if a.hk ≠ b.hk then 4 else if a.rows.length + b.rows.length > 60 then 8 else 0
def refE (a : DesA) : Int := if firstE [a] ≠ 0 then firstE [a] else if a.hk + max 0 (a.hk - 2) > 24 then 8 else 0
end Go.Abs
