/-
 Chapter 12: sets, and copies in one form. No condition beyond those that each theorem names.
-/
import Derived.Test.YtodpkfillohplaaDoorY3
set_option linter.all false
namespace Go.Abs
set_option maxRecDepth 10000
set_option maxHeartbeats 4000000
theorem index_sets (l : List DesA) (p : DesA → Bool) (f : Nat) (x : AV) (hl : l.length < 1000000000) (hp : ∀ d ∈ l, lim F f [d.av, .iptr x 0] = some (.bool (p d), [])) :
  lim F 82 [.list 2 (l.map DesA.av), .func f [.iptr x 0]] = some (iv (idxF p l), []) := by
 have hln : (l.map DesA.av).length = l.length := by simp
 have hg := fun i (h : i < l.length) => set_at h
 unfold DesA.av at hp;generalize l.map DesA.av = es at *;refine lim_by (fn := a82) (k := 2) (res := [.tmp 4]) rfl rfl rfl (by simp -implicitDefEqProofs (maxSteps := 2000000) (disch := first | exact tt_rfl rfl | omega | (simp only [go_sem] <;> omega) | fail) only [go_sem]) ?_
 try delta mvA
 try delta opA
 try delta tA
 simp -implicitDefEqProofs (maxSteps := 2000000) (disch := first | exact tt_rfl rfl | omega | (simp only [go_sem] <;> omega) | fail) only [go_sem]
 repeat (first | apply Wp.seqA | apply Wp.skipS | apply Wp.blockS | ((first | apply Wp.regS | apply Wp.condV | apply Wp.reg | apply Wp.condW | apply fin_ret); simp -implicitDefEqProofs (maxSteps := 2000000) (disch := first | exact tt_rfl rfl | omega | (simp only [go_sem] <;> omega) | fail) only [go_sem, hln] <;> try with_reducible rfl) | apply Wp.block | apply Wp.exitS | apply Wp.retS | apply Wp.exit | apply Wp.ret | apply Wp.skip)
 apply Wp.loopF l.length (fun i => ⟨[(0, .list 2 es), (1, .func f [.iptr x 0]), (7, iv l.length), (8, iv i)], [], [], 10000000⟩) (fun i => ∀ j (hj : j < l.length), j < i → p l[j] = false)
 ·simp -implicitDefEqProofs (maxSteps := 2000000) (disch := first | exact tt_rfl rfl | omega | (simp only [go_sem] <;> omega) | fail) only [go_sem, norm_eq, Ok.some]
  rfl
 ·intro j hj h; omega
 intro i hi hn;by_cases h : i < l.length
 ·have hc := hp l[i] (List.getElem_mem h)
  have h1 := hg i h;cases hb : p l[i] with
  | true =>
   rw [hb] at hc;repeat (first | apply Wp.seqA | apply Wp.skipS | apply Wp.blockS | ((first | apply Wp.regS | apply Wp.condV | apply Wp.reg | apply Wp.condW | apply fin_ret); simp -implicitDefEqProofs (maxSteps := 2000000) (disch := first | exact tt_rfl rfl | omega | (simp only [go_sem] <;> omega) | fail) only [go_sem, h, h1, hc, Int.ofNat_lt, hln] <;> try with_reducible rfl) | apply Wp.block | apply Wp.exitS | apply Wp.retS | apply Wp.exit | apply Wp.ret | apply Wp.skip)
   rw [idxF_at h hb hn]
  | false =>
   rw [hb] at hc;repeat (first | apply Wp.seqA | apply Wp.skipS | apply Wp.blockS | ((first | apply Wp.regS | apply Wp.condV | apply Wp.reg | apply Wp.condW | apply fin_ret); simp -implicitDefEqProofs (maxSteps := 2000000) (disch := first | exact tt_rfl rfl | omega | (simp only [go_sem] <;> omega) | fail) only [go_sem, h, h1, hc, Int.ofNat_lt, hln] <;> try with_reducible rfl) | apply Wp.block | apply Wp.exitS | apply Wp.retS | apply Wp.exit | apply Wp.ret | apply Wp.skip)
   apply round_next
   ·simp -implicitDefEqProofs (maxSteps := 2000000) (disch := first | exact tt_rfl rfl | omega | (simp only [go_sem] <;> omega) | fail) only [go_sem, norm_eq, Ok.some]; with_reducible rfl
   refine ⟨h, by simp, fun j hj hji => ?_⟩
   by_cases e : j = i
   ·subst e; exact hb
   ·exact hn j hj (by omega)
 ·repeat (first | apply Wp.seqA | apply Wp.skipS | apply Wp.blockS | ((first | apply Wp.regS | apply Wp.condV | apply Wp.reg | apply Wp.condW | apply fin_ret); simp -implicitDefEqProofs (maxSteps := 2000000) (disch := first | exact tt_rfl rfl | omega | (simp only [go_sem] <;> omega) | fail) only [go_sem, h, Int.ofNat_lt, hln] <;> try with_reducible rfl) | apply Wp.block | apply Wp.exitS | apply Wp.retS | apply Wp.exit | apply Wp.ret | apply Wp.skip)
  rw [idxF_no fun j hj => hn j hj (by omega)]
theorem contains_sets (l : List DesA) (p : DesA → Bool) (f : Nat) (x : AV) (hl : l.length < 1000000000) (hp : ∀ d ∈ l, lim F f [d.av, .iptr x 0] = some (.bool (p d), [])) :
  lim F 60 [.list 2 (l.map DesA.av), .func f [.iptr x 0]] = some (.bool (l.any p), []) := by
 have h := index_sets l p f x hl hp;refine lim_by (fn := a60) (k := 2) (res := [.tmp 4]) rfl rfl rfl (by simp -implicitDefEqProofs (maxSteps := 2000000) (disch := first | exact tt_rfl rfl | omega | (simp only [go_sem] <;> omega) | fail) only [go_sem]) ?_
 try delta mvA
 try delta opA
 try delta tA
 simp -implicitDefEqProofs (maxSteps := 2000000) (disch := first | exact tt_rfl rfl | omega | (simp only [go_sem] <;> omega) | fail) only [go_sem]
 repeat (first | apply Wp.seqA | apply Wp.skipS | apply Wp.blockS | ((first | apply Wp.regS | apply Wp.condV | apply Wp.reg | apply Wp.condW | apply fin_ret); simp -implicitDefEqProofs (maxSteps := 2000000) (disch := first | exact tt_rfl rfl | omega | (simp only [go_sem] <;> omega) | fail) only [go_sem, h, idxF_ge] <;> try with_reducible rfl) | apply Wp.block | apply Wp.exitS | apply Wp.retS | apply Wp.exit | apply Wp.ret | apply Wp.skip)
theorem head_at {l : List DesA} (h : 0 < l.length) : (l.map DesA.av)[0]? = some (.agg [iv (headA l).hk, .list 1 ((headA l).rows.map fun n => iv n)]) := by
 cases l with
 | nil => simp at h
 | cons a r => rfl
theorem check1_ok (l : List DesA) (h0 : 0 < l.length) (d : DesA) : lim F 59 [d.av, .iptr (.agg [.list 2 (l.map DesA.av)]) 0] = some (.bool (!likeB l d), []) := by
 have hg := head_at h0;have hln : (l.map DesA.av).length = l.length := by simp
 unfold likeB DesA.av;have n1 : (d.rows.map fun n => iv n).length = d.rows.length := by simp
 have n2 : ((headA l).rows.map fun n => iv n).length = (headA l).rows.length := by simp
 change (l.map fun d : DesA => AV.agg [iv d.hk, .list 1 (d.rows.map fun n => iv n)])[0]? = _ at hg
 generalize (l.map fun d : DesA => AV.agg [iv d.hk, .list 1 (d.rows.map fun n => iv n)]) = es at *
 generalize (headA l).rows.map (fun n => iv n) = r2 at *
 generalize d.rows.map (fun n => iv n) = r1 at *
 by_cases h1 : d.hk = (headA l).hk
 ·by_cases h2 : d.rows.length = (headA l).rows.length
  ·refine lim_by (fn := a59) (k := 2) (res := [.tmp 3]) rfl rfl rfl (by simp -implicitDefEqProofs (maxSteps := 2000000) (disch := first | exact tt_rfl rfl | omega | (simp only [go_sem] <;> omega) | fail) only [go_sem]) ?_
   try delta mvA
   try delta opA
   try delta tA
   simp -implicitDefEqProofs (maxSteps := 2000000) (disch := first | exact tt_rfl rfl | omega | (simp only [go_sem] <;> omega) | fail) only [go_sem]
   repeat (first | apply Wp.seqA | apply Wp.skipS | apply Wp.blockS | ((first | apply Wp.regS | apply Wp.condV | apply Wp.reg | apply Wp.condW | apply fin_ret); simp -implicitDefEqProofs (maxSteps := 2000000) (disch := first | exact tt_rfl rfl | omega | (simp only [go_sem] <;> omega) | fail) only [go_sem, hg, h1, n1, n2, h2] <;> try with_reducible rfl) | apply Wp.block | apply Wp.exitS | apply Wp.retS | apply Wp.exit | apply Wp.ret | apply Wp.skip)
  ·refine lim_by (fn := a59) (k := 2) (res := [.tmp 3]) rfl rfl rfl (by simp -implicitDefEqProofs (maxSteps := 2000000) (disch := first | exact tt_rfl rfl | omega | (simp only [go_sem] <;> omega) | fail) only [go_sem]) ?_
   try delta mvA
   try delta opA
   try delta tA
   simp -implicitDefEqProofs (maxSteps := 2000000) (disch := first | exact tt_rfl rfl | omega | (simp only [go_sem] <;> omega) | fail) only [go_sem]
   repeat (first | apply Wp.seqA | apply Wp.skipS | apply Wp.blockS | ((first | apply Wp.regS | apply Wp.condV | apply Wp.reg | apply Wp.condW | apply fin_ret); simp -implicitDefEqProofs (maxSteps := 2000000) (disch := first | exact tt_rfl rfl | omega | (simp only [go_sem] <;> omega) | fail) only [go_sem, hg, h1, n1, n2, h2, show ¬ ((d.rows.length : Int) = ((headA l).rows.length : Int)) by omega, and_false] <;> try with_reducible rfl) | apply Wp.block | apply Wp.exitS | apply Wp.retS | apply Wp.exit | apply Wp.ret | apply Wp.skip)
 ·refine lim_by (fn := a59) (k := 2) (res := [.tmp 3]) rfl rfl rfl (by simp -implicitDefEqProofs (maxSteps := 2000000) (disch := first | exact tt_rfl rfl | omega | (simp only [go_sem] <;> omega) | fail) only [go_sem]) ?_
  try delta mvA
  try delta opA
  try delta tA
  simp -implicitDefEqProofs (maxSteps := 2000000) (disch := first | exact tt_rfl rfl | omega | (simp only [go_sem] <;> omega) | fail) only [go_sem]
  repeat (first | apply Wp.seqA | apply Wp.skipS | apply Wp.blockS | ((first | apply Wp.regS | apply Wp.condV | apply Wp.reg | apply Wp.condW | apply fin_ret); simp -implicitDefEqProofs (maxSteps := 2000000) (disch := first | exact tt_rfl rfl | omega | (simp only [go_sem] <;> omega) | fail) only [go_sem, hg, h1, n1, n2, false_and] <;> try with_reducible rfl) | apply Wp.block | apply Wp.exitS | apply Wp.retS | apply Wp.exit | apply Wp.ret | apply Wp.skip)
theorem Check_ok (l : List DesA) (hl : l.length ≤ 1000) (hr : ∀ d ∈ l, d.rows.length ≤ 1000000) : lim F 16 [.list 2 (l.map DesA.av)] = some (iv (checkS l), []) := by
 have hln : (l.map DesA.av).length = l.length := by simp
 have hg := fun i (h : i < l.length) => set_at h
 have hC := fun i (h : i < l.length) => setE_ok l[i] (hr _ (List.getElem_mem h))
 unfold checkS;by_cases h1 : 10 < l.length
 ·generalize l.map DesA.av = es at *
  refine lim_by (fn := a16) (k := 1) (res := [.tmp 2]) rfl rfl rfl (by simp -implicitDefEqProofs (maxSteps := 2000000) (disch := first | exact tt_rfl rfl | omega | (simp only [go_sem] <;> omega) | fail) only [go_sem]) ?_
  try delta mvA
  try delta opA
  try delta tA
  simp -implicitDefEqProofs (maxSteps := 2000000) (disch := first | exact tt_rfl rfl | omega | (simp only [go_sem] <;> omega) | fail) only [go_sem]
  repeat (first | apply Wp.seqA | apply Wp.skipS | apply Wp.blockS | ((first | apply Wp.regS | apply Wp.condV | apply Wp.reg | apply Wp.condW | apply fin_ret); simp -implicitDefEqProofs (maxSteps := 2000000) (disch := first | exact tt_rfl rfl | omega | (simp only [go_sem] <;> omega) | fail) only [go_sem, hln, h1, show (10 : Int) < l.length by omega] <;> try with_reducible rfl) | apply Wp.block | apply Wp.exitS | apply Wp.retS | apply Wp.exit | apply Wp.ret | apply Wp.skip)
 by_cases h2 : l.length = 0
 ·generalize l.map DesA.av = es at *
  refine lim_by (fn := a16) (k := 1) (res := [.tmp 2]) rfl rfl rfl (by simp -implicitDefEqProofs (maxSteps := 2000000) (disch := first | exact tt_rfl rfl | omega | (simp only [go_sem] <;> omega) | fail) only [go_sem]) ?_
  try delta mvA
  try delta opA
  try delta tA
  simp -implicitDefEqProofs (maxSteps := 2000000) (disch := first | exact tt_rfl rfl | omega | (simp only [go_sem] <;> omega) | fail) only [go_sem]
  repeat (first | apply Wp.seqA | apply Wp.skipS | apply Wp.blockS | ((first | apply Wp.regS | apply Wp.condV | apply Wp.reg | apply Wp.condW | apply fin_ret); simp -implicitDefEqProofs (maxSteps := 2000000) (disch := first | exact tt_rfl rfl | omega | (simp only [go_sem] <;> omega) | fail) only [go_sem, hln, h1, h2, Int.natCast_zero] <;> try with_reducible rfl) | apply Wp.block | apply Wp.exitS | apply Wp.retS | apply Wp.exit | apply Wp.ret | apply Wp.skip)
 rw [if_neg h1, if_neg h2];have hA := contains_sets l (fun d => !likeB l d) 59 (.agg [.list 2 (l.map DesA.av)]) (by omega) (fun d _ => check1_ok l (by omega) d)
 have hany : (l.any fun d => !likeB l d) = !l.all (likeB l) := by rw [List.all_eq_not_any_not, Bool.not_not]
 rw [hany] at hA;unfold DesA.av at hC;generalize l.map DesA.av = es at *;refine lim_by (fn := a16) (k := 1) (res := [.tmp 2]) rfl rfl rfl (by simp -implicitDefEqProofs (maxSteps := 2000000) (disch := first | exact tt_rfl rfl | omega | (simp only [go_sem] <;> omega) | fail) only [go_sem]) ?_
 try delta mvA
 try delta opA
 try delta tA
 simp -implicitDefEqProofs (maxSteps := 2000000) (disch := first | exact tt_rfl rfl | omega | (simp only [go_sem] <;> omega) | fail) only [go_sem]
 repeat (first | apply Wp.seqA | apply Wp.skipS | apply Wp.blockS | ((first | apply Wp.regS | apply Wp.condV | apply Wp.reg | apply Wp.condW | apply fin_ret); simp -implicitDefEqProofs (maxSteps := 2000000) (disch := first | exact tt_rfl rfl | omega | (simp only [go_sem] <;> omega) | fail) only [go_sem, hln, show ¬ (10 : Int) < l.length by omega, show ¬ (l.length : Int) = 0 by omega] <;> try with_reducible rfl) | apply Wp.block | apply Wp.exitS | apply Wp.retS | apply Wp.exit | apply Wp.ret | apply Wp.skip)
 apply Wp.loopF l.length (fun i => ⟨[(1, .ptr 64 0 0), (15, .list 2 es), (16, iv (l.length : Int)), (17, iv (i : Int))], [(64, .box [.list 2 es])], [], 10000000⟩) (fun i => ∀ j (hj : j < l.length), j < i → checkD l[j] = 0)
 ·simp -implicitDefEqProofs (maxSteps := 2000000) (disch := first | exact tt_rfl rfl | omega | (simp only [go_sem] <;> omega) | fail) only [go_sem, norm_eq, Ok.some]
  rfl
 ·intro j hj h; omega
 intro i hi hn;by_cases h : i < l.length
 ·have a1 := hg i h
  have a2 := hC i h;by_cases hc : checkD l[i] = 0
  ·rw [hc] at a2
   repeat (first | apply Wp.seqA | apply Wp.skipS | apply Wp.blockS | ((first | apply Wp.regS | apply Wp.condV | apply Wp.reg | apply Wp.condW | apply fin_ret); simp -implicitDefEqProofs (maxSteps := 2000000) (disch := first | exact tt_rfl rfl | omega | (simp only [go_sem] <;> omega) | fail) only [go_sem, h, Int.ofNat_lt, a1, a2, hln] <;> try with_reducible rfl) | apply Wp.block | apply Wp.exitS | apply Wp.retS | apply Wp.exit | apply Wp.ret | apply Wp.skip)
   apply round_next
   ·simp -implicitDefEqProofs (maxSteps := 2000000) (disch := first | exact tt_rfl rfl | omega | (simp only [go_sem] <;> omega) | fail) only [go_sem, norm_eq, Ok.some]; with_reducible rfl
   refine ⟨h, by simp, fun j hj hji => ?_⟩
   by_cases e : j = i
   ·subst e; exact hc
   ·exact hn j hj (by omega)
  ·rw [firstE_at h hn hc, if_pos hc]
   generalize checkD l[i] = c at *;repeat (first | apply Wp.seqA | apply Wp.skipS | apply Wp.blockS | ((first | apply Wp.regS | apply Wp.condV | apply Wp.reg | apply Wp.condW | apply fin_ret); simp -implicitDefEqProofs (maxSteps := 2000000) (disch := first | exact tt_rfl rfl | omega | (simp only [go_sem] <;> omega) | fail) only [go_sem, h, Int.ofNat_lt, a1, a2, hln, hc] <;> try with_reducible rfl) | apply Wp.block | apply Wp.exitS | apply Wp.retS | apply Wp.exit | apply Wp.ret | apply Wp.skip)
 ·rw [firstE_none fun j hj => hn j hj (by omega), if_neg (by simp)]
  cases hb : l.all (likeB l);all_goals
   rw [hb] at hA;repeat (first | apply Wp.seqA | apply Wp.skipS | apply Wp.blockS | ((first | apply Wp.regS | apply Wp.condV | apply Wp.reg | apply Wp.condW | apply fin_ret); simp -implicitDefEqProofs (maxSteps := 2000000) (disch := first | exact tt_rfl rfl | omega | (simp only [go_sem] <;> omega) | fail) only [go_sem, h, Int.ofNat_lt, hA] <;> try with_reducible rfl) | apply Wp.block | apply Wp.exitS | apply Wp.retS | apply Wp.exit | apply Wp.ret | apply Wp.skip)
end Go.Abs
