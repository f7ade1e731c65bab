/-
 Chapter 1: designs beside and above each other, and point repeats. No condition beyond those that each theorem names.
-/
import Derived.Test.YtkjlmfabhejbnaaDoorV3
import Derived.Test.YtkjlmfabhejbnaaDoorM9a
set_option linter.all false
namespace Go.Abs
set_option maxRecDepth 10000
set_option maxHeartbeats 4000000
def firstE : List DesA → Int
 | [] => 0
 | d :: l => if checkD d ≠ 0 then checkD d else firstE l
theorem firstE_at : ∀ {l : List DesA} {i : Nat} (h : i < l.length), (∀ j (hj : j < l.length), j < i → checkD l[j] = 0) → checkD l[i] ≠ 0 → firstE l = checkD l[i]
 | d :: l, 0, _, _, h => by
  unfold firstE;exact if_pos h
 | d :: l, i + 1, hi, hj, h => by
  have h0 := hj 0 (by simp) (by omega)
  unfold firstE;rw [if_neg (by simpa using h0)]
  exact firstE_at (l := l) (i := i) (by simpa using hi) (fun j hj' hji => hj (j + 1) (by simpa using hj') (by omega)) h
theorem firstE_none : ∀ {l : List DesA}, (∀ j (hj : j < l.length), checkD l[j] = 0) → firstE l = 0
 | [], _ => rfl
 | d :: l, hj => by
  have h0 := hj 0 (by simp)
  unfold firstE;rw [if_neg (by simpa using h0)]
  exact firstE_none fun j hj' => hj (j + 1) (by simpa using hj')
theorem av_at {l : List DesA} {i : Nat} (h : i < l.length) : (l.map DesA.av)[i]? = some (.agg [iv l[i].hk, .list 1 (l[i].rows.map fun n => iv n)]) := by
 rw [List.getElem?_map, List.getElem?_eq_getElem h]; rfl
theorem checkL_ok (l : List DesA) (hl : l.length ≤ 1000) (hr : ∀ d ∈ l, d.rows.length ≤ 1000) : lim F 32 [.list 2 (l.map DesA.av)] = some (iv (firstE l), []) := by
 have hln : (l.map DesA.av).length = l.length := by simp
 have hg := fun i (h : i < l.length) => av_at h
 have hC := fun i (h : i < l.length) => Check_ok l[i] (by have := hr _ (List.getElem_mem h); omega)
 unfold DesA.av at hC;generalize l.map DesA.av = es at *;refine lim_by (fn := a32) (k := 1) (res := [.tmp 2]) rfl rfl rfl (by simp -implicitDefEqProofs (maxSteps := 2000000) (disch := first | exact tt_rfl rfl | omega | (simp only [go_sem] <;> omega) | fail) only [go_sem]) ?_
 try delta mvA
 try delta opA
 try delta tA
 simp -implicitDefEqProofs (maxSteps := 2000000) (disch := first | exact tt_rfl rfl | omega | (simp only [go_sem] <;> omega) | fail) only [go_sem]
 repeat (first | apply Wp.seqA | apply Wp.skipS | apply Wp.blockS | ((first | apply Wp.regS | apply Wp.condV | apply Wp.reg | apply Wp.condW | apply fin_ret); simp -implicitDefEqProofs (maxSteps := 2000000) (disch := first | exact tt_rfl rfl | omega | (simp only [go_sem] <;> omega) | fail) only [go_sem, hln] <;> try with_reducible rfl) | apply Wp.block | apply Wp.exitS | apply Wp.retS | apply Wp.exit | apply Wp.ret | apply Wp.skip)
 apply Wp.loopF l.length (fun i => ⟨[(6, .list 2 es), (7, iv (l.length : Int)), (8, iv (i : Int))], [], [], 10000000⟩) (fun i => ∀ j (hj : j < l.length), j < i → checkD l[j] = 0)
 ·simp -implicitDefEqProofs (maxSteps := 2000000) (disch := first | exact tt_rfl rfl | omega | (simp only [go_sem] <;> omega) | fail) only [go_sem, norm_eq, Ok.some]
  rfl
 ·intro j hj h; omega
 intro i hi hn;by_cases h : i < l.length
 ·have h1 := hg i h
  have h2 := hC i h;by_cases hc : checkD l[i] = 0
  ·rw [hc] at h2
   repeat (first | apply Wp.seqA | apply Wp.skipS | apply Wp.blockS | ((first | apply Wp.regS | apply Wp.condV | apply Wp.reg | apply Wp.condW | apply fin_ret); simp -implicitDefEqProofs (maxSteps := 2000000) (disch := first | exact tt_rfl rfl | omega | (simp only [go_sem] <;> omega) | fail) only [go_sem, h, Int.ofNat_lt, h1, h2, hln] <;> try with_reducible rfl) | apply Wp.block | apply Wp.exitS | apply Wp.retS | apply Wp.exit | apply Wp.ret | apply Wp.skip)
   apply round_next
   ·simp -implicitDefEqProofs (maxSteps := 2000000) (disch := first | exact tt_rfl rfl | omega | (simp only [go_sem] <;> omega) | fail) only [go_sem, norm_eq, Ok.some]; with_reducible rfl
   refine ⟨h, by simp, fun j hj hji => ?_⟩
   by_cases e : j = i
   ·subst e; exact hc
   ·exact hn j hj (by omega)
  ·rw [firstE_at h hn hc]
   generalize checkD l[i] = c at *;repeat (first | apply Wp.seqA | apply Wp.skipS | apply Wp.blockS | ((first | apply Wp.regS | apply Wp.condV | apply Wp.reg | apply Wp.condW | apply fin_ret); simp -implicitDefEqProofs (maxSteps := 2000000) (disch := first | exact tt_rfl rfl | omega | (simp only [go_sem] <;> omega) | fail) only [go_sem, h, Int.ofNat_lt, h1, h2, hln, hc] <;> try with_reducible rfl) | apply Wp.block | apply Wp.exitS | apply Wp.retS | apply Wp.exit | apply Wp.ret | apply Wp.skip)
 ·rw [firstE_none fun j hj => hn j hj (by omega)]
  repeat (first | apply Wp.seqA | apply Wp.skipS | apply Wp.blockS | ((first | apply Wp.regS | apply Wp.condV | apply Wp.reg | apply Wp.condW | apply fin_ret); simp -implicitDefEqProofs (maxSteps := 2000000) (disch := first | exact tt_rfl rfl | omega | (simp only [go_sem] <;> omega) | fail) only [go_sem, h, Int.ofNat_lt] <;> try with_reducible rfl) | apply Wp.block | apply Wp.exitS | apply Wp.retS | apply Wp.exit | apply Wp.ret | apply Wp.skip)
theorem first_ok (l : List DesA) (hl : l.length ≤ 1000) (hr : ∀ d ∈ l, d.rows.length ≤ 1000) : lim F 11 [.list 2 (l.map DesA.av)] = some (iv (firstE l), []) := by
 have hln : (l.map DesA.av).length = l.length := by simp
 have hg := fun i (h : i < l.length) => av_at h
 have hC := fun i (h : i < l.length) => refCheck_ok l[i] (by have := hr _ (List.getElem_mem h); omega)
 unfold DesA.av at hC;generalize l.map DesA.av = es at *;refine lim_by (fn := a11) (k := 1) (res := [.tmp 2]) rfl rfl rfl (by simp -implicitDefEqProofs (maxSteps := 2000000) (disch := first | exact tt_rfl rfl | omega | (simp only [go_sem] <;> omega) | fail) only [go_sem]) ?_
 try delta mvA
 try delta opA
 try delta tA
 simp -implicitDefEqProofs (maxSteps := 2000000) (disch := first | exact tt_rfl rfl | omega | (simp only [go_sem] <;> omega) | fail) only [go_sem]
 repeat (first | apply Wp.seqA | apply Wp.skipS | apply Wp.blockS | ((first | apply Wp.regS | apply Wp.condV | apply Wp.reg | apply Wp.condW | apply fin_ret); simp -implicitDefEqProofs (maxSteps := 2000000) (disch := first | exact tt_rfl rfl | omega | (simp only [go_sem] <;> omega) | fail) only [go_sem, hln] <;> try with_reducible rfl) | apply Wp.block | apply Wp.exitS | apply Wp.retS | apply Wp.exit | apply Wp.ret | apply Wp.skip)
 apply Wp.loopF l.length (fun i => ⟨[(0, .list 2 es), (3, iv (i : Int))], [], [], 10000000⟩) (fun i => ∀ j (hj : j < l.length), j < i → checkD l[j] = 0)
 ·simp -implicitDefEqProofs (maxSteps := 2000000) (disch := first | exact tt_rfl rfl | omega | (simp only [go_sem] <;> omega) | fail) only [go_sem, norm_eq, Ok.some]
  rfl
 ·intro j hj h; omega
 intro i hi hn;by_cases h : i < l.length
 ·have h1 := hg i h
  have h2 := hC i h;by_cases hc : checkD l[i] = 0
  ·rw [hc] at h2
   repeat (first | apply Wp.seqA | apply Wp.skipS | apply Wp.blockS | ((first | apply Wp.regS | apply Wp.condV | apply Wp.reg | apply Wp.condW | apply fin_ret); simp -implicitDefEqProofs (maxSteps := 2000000) (disch := first | exact tt_rfl rfl | omega | (simp only [go_sem] <;> omega) | fail) only [go_sem, h, Int.ofNat_lt, h1, h2, hln] <;> try with_reducible rfl) | apply Wp.block | apply Wp.exitS | apply Wp.retS | apply Wp.exit | apply Wp.ret | apply Wp.skip)
   apply round_next
   ·simp -implicitDefEqProofs (maxSteps := 2000000) (disch := first | exact tt_rfl rfl | omega | (simp only [go_sem] <;> omega) | fail) only [go_sem, norm_eq, Ok.some]; with_reducible rfl
   refine ⟨h, by simp, fun j hj hji => ?_⟩
   by_cases e : j = i
   ·subst e; exact hc
   ·exact hn j hj (by omega)
  ·rw [firstE_at h hn hc]
   generalize checkD l[i] = c at *;repeat (first | apply Wp.seqA | apply Wp.skipS | apply Wp.blockS | ((first | apply Wp.regS | apply Wp.condV | apply Wp.reg | apply Wp.condW | apply fin_ret); simp -implicitDefEqProofs (maxSteps := 2000000) (disch := first | exact tt_rfl rfl | omega | (simp only [go_sem] <;> omega) | fail) only [go_sem, h, Int.ofNat_lt, h1, h2, hln, hc] <;> try with_reducible rfl) | apply Wp.block | apply Wp.exitS | apply Wp.retS | apply Wp.exit | apply Wp.ret | apply Wp.skip)
 ·rw [firstE_none fun j hj => hn j hj (by omega)]
  repeat (first | apply Wp.seqA | apply Wp.skipS | apply Wp.blockS | ((first | apply Wp.regS | apply Wp.condV | apply Wp.reg | apply Wp.condW | apply fin_ret); simp -implicitDefEqProofs (maxSteps := 2000000) (disch := first | exact tt_rfl rfl | omega | (simp only [go_sem] <;> omega) | fail) only [go_sem, h, hln, Int.ofNat_lt] <;> try with_reducible rfl) | apply Wp.block | apply Wp.exitS | apply Wp.retS | apply Wp.exit | apply Wp.ret | apply Wp.skip)
def besE (a b : DesA) : Int := if firstE [a, b] ≠ 0 then firstE [a, b] else if a.rows.length ≠ b.rows.length then 4 else if a.hk + b.hk > 24 then 8 else 0
theorem first2_zero {a b : DesA} (h : firstE [a, b] = 0) : checkD a = 0 ∧ checkD b = 0 := by
 unfold firstE at h;split at h
 ·rename_i h1; exact absurd h h1
 ·rename_i h1
  unfold firstE at h;split at h
  ·rename_i h2; exact absurd h h2
  ·rename_i h2
   exact ⟨Classical.not_not.1 h1, Classical.not_not.1 h2⟩
def aboE (a b : DesA) : Int := if firstE [a, b] ≠ 0 then firstE [a, b] else if a.hk ≠ b.hk then 4 else if a.rows.length + b.rows.length > 60 then 8 else 0
def refE (a : DesA) : Int := if firstE [a] ≠ 0 then firstE [a] else if a.hk + max 0 (a.hk - 2) > 24 then 8 else 0
end Go.Abs
