/-
 Chapter 1: designs beside and above each other, and point repeats. No condition beyond those that each theorem names.
-/
import Derived.Test.YtkjlmfabhejbnaaV3
import Derived.Test.YtkjlmfabhejbnaaM9a
set_option linter.all false
namespace Go.Abs
set_option maxRecDepth 10000
set_option maxHeartbeats 4000000

/-- the first error -/
def firstE : List DesA → Int
 | [] => 0
 | d :: l => if checkD d ≠ 0 then checkD d else firstE l
theorem firstE_at : ∀ {l : List DesA} {i : Nat} (h : i < l.length), (∀ j (hj : j < l.length), j < i → checkD l[j] = 0) → checkD l[i] ≠ 0 → firstE l = checkD l[i]
 | d :: l, 0, _, _, h => by
  unfold firstE
  exact if_pos h
 | d :: l, i + 1, hi, hj, h => by
  have h0 := hj 0 (by simp) (by omega)
  unfold firstE
  rw [if_neg (by simpa using h0)]
  exact firstE_at (l := l) (i := i) (by simpa using hi) (fun j hj' hji => hj (j + 1) (by simpa using hj') (by omega)) h
theorem firstE_none : ∀ {l : List DesA}, (∀ j (hj : j < l.length), checkD l[j] = 0) → firstE l = 0
 | [], _ => rfl
 | d :: l, hj => by
  have h0 := hj 0 (by simp)
  unfold firstE
  rw [if_neg (by simpa using h0)]
  exact firstE_none fun j hj' => hj (j + 1) (by simpa using hj')
theorem av_at {l : List DesA} {i : Nat} (h : i < l.length) : (l.map DesA.av)[i]? = some (.agg [iv l[i].hk, .list 1 (l[i].rows.map fun n => iv n)]) := by
 rw [List.getElem?_map, List.getElem?_eq_getElem h]; rfl
theorem checkL_ok (l : List DesA) (hl : l.length ≤ 1000) (hr : ∀ d ∈ l, d.rows.length ≤ 1000) : lim F 76 [.list 2 (l.map DesA.av)] = some (iv (firstE l), []) := by
 have hln : (l.map DesA.av).length = l.length := by simp
 have hg := fun i (h : i < l.length) => av_at h
 have hC := fun i (h : i < l.length) => Check_ok l[i] (by have := hr _ (List.getElem_mem h); omega)
 unfold DesA.av at hC
 generalize l.map DesA.av = es at *
 refine lim_by (fn := a76) (k := 1) (res := [.tmp 2]) rfl rfl rfl (by simp -implicitDefEqProofs (maxSteps := 2000000) (disch := first | exact tt_rfl rfl | omega | (simp only [go_sem] <;> omega) | fail) only [go_sem]) ?_
 simp -implicitDefEqProofs (maxSteps := 2000000) (disch := first | exact tt_rfl rfl | omega | (simp only [go_sem] <;> omega) | fail) only [go_sem]
 repeat (first | apply Wp.seqA | apply Wp.skipS | apply Wp.blockS | ((first | apply Wp.regS | apply Wp.condV | apply Wp.reg | apply Wp.condW | apply fin_ret); simp -implicitDefEqProofs (maxSteps := 2000000) (disch := first | exact tt_rfl rfl | omega | (simp only [go_sem] <;> omega) | fail) only [go_sem, hln] <;> try with_reducible rfl) | apply Wp.block | apply Wp.exitS | apply Wp.retS | apply Wp.exit | apply Wp.ret | apply Wp.skip)
 apply Wp.loopF l.length (fun i => ⟨[(6, .list 2 es), (7, iv (l.length : Int)), (8, iv (i : Int))], [], [], 10000000⟩) (fun i => ∀ j (hj : j < l.length), j < i → checkD l[j] = 0)
 ·simp -implicitDefEqProofs (maxSteps := 2000000) (disch := first | exact tt_rfl rfl | omega | (simp only [go_sem] <;> omega) | fail) only [go_sem, norm_eq, Ok.some]
  rfl
 ·intro j hj h; omega
 intro i hi hn
 by_cases h : i < l.length
 ·have h1 := hg i h
  have h2 := hC i h
  by_cases hc : checkD l[i] = 0
  ·rw [hc] at h2
   repeat (first | apply Wp.seqA | apply Wp.skipS | apply Wp.blockS | ((first | apply Wp.regS | apply Wp.condV | apply Wp.reg | apply Wp.condW | apply fin_ret); simp -implicitDefEqProofs (maxSteps := 2000000) (disch := first | exact tt_rfl rfl | omega | (simp only [go_sem] <;> omega) | fail) only [go_sem, h, Int.ofNat_lt, h1, h2, hln] <;> try with_reducible rfl) | apply Wp.block | apply Wp.exitS | apply Wp.retS | apply Wp.exit | apply Wp.ret | apply Wp.skip)
   apply round_next
   ·simp -implicitDefEqProofs (maxSteps := 2000000) (disch := first | exact tt_rfl rfl | omega | (simp only [go_sem] <;> omega) | fail) only [go_sem, norm_eq, Ok.some]; with_reducible rfl
   refine ⟨h, by simp, fun j hj hji => ?_⟩
   by_cases e : j = i
   ·subst e; exact hc
   ·exact hn j hj (by omega)
  ·rw [firstE_at h hn hc]
   generalize checkD l[i] = c at *
   repeat (first | apply Wp.seqA | apply Wp.skipS | apply Wp.blockS | ((first | apply Wp.regS | apply Wp.condV | apply Wp.reg | apply Wp.condW | apply fin_ret); simp -implicitDefEqProofs (maxSteps := 2000000) (disch := first | exact tt_rfl rfl | omega | (simp only [go_sem] <;> omega) | fail) only [go_sem, h, Int.ofNat_lt, h1, h2, hln, hc] <;> try with_reducible rfl) | apply Wp.block | apply Wp.exitS | apply Wp.retS | apply Wp.exit | apply Wp.ret | apply Wp.skip)
 ·rw [firstE_none fun j hj => hn j hj (by omega)]
  repeat (first | apply Wp.seqA | apply Wp.skipS | apply Wp.blockS | ((first | apply Wp.regS | apply Wp.condV | apply Wp.reg | apply Wp.condW | apply fin_ret); simp -implicitDefEqProofs (maxSteps := 2000000) (disch := first | exact tt_rfl rfl | omega | (simp only [go_sem] <;> omega) | fail) only [go_sem, h, Int.ofNat_lt] <;> try with_reducible rfl) | apply Wp.block | apply Wp.exitS | apply Wp.retS | apply Wp.exit | apply Wp.ret | apply Wp.skip)
theorem first_ok (l : List DesA) (hl : l.length ≤ 1000) (hr : ∀ d ∈ l, d.rows.length ≤ 1000) : lim F 56 [.list 2 (l.map DesA.av)] = some (iv (firstE l), []) := by
 have hln : (l.map DesA.av).length = l.length := by simp
 have hg := fun i (h : i < l.length) => av_at h
 have hC := fun i (h : i < l.length) => refCheck_ok l[i] (by have := hr _ (List.getElem_mem h); omega)
 unfold DesA.av at hC
 generalize l.map DesA.av = es at *
 refine lim_by (fn := a56) (k := 1) (res := [.tmp 2]) rfl rfl rfl (by simp -implicitDefEqProofs (maxSteps := 2000000) (disch := first | exact tt_rfl rfl | omega | (simp only [go_sem] <;> omega) | fail) only [go_sem]) ?_
 simp -implicitDefEqProofs (maxSteps := 2000000) (disch := first | exact tt_rfl rfl | omega | (simp only [go_sem] <;> omega) | fail) only [go_sem]
 repeat (first | apply Wp.seqA | apply Wp.skipS | apply Wp.blockS | ((first | apply Wp.regS | apply Wp.condV | apply Wp.reg | apply Wp.condW | apply fin_ret); simp -implicitDefEqProofs (maxSteps := 2000000) (disch := first | exact tt_rfl rfl | omega | (simp only [go_sem] <;> omega) | fail) only [go_sem, hln] <;> try with_reducible rfl) | apply Wp.block | apply Wp.exitS | apply Wp.retS | apply Wp.exit | apply Wp.ret | apply Wp.skip)
 apply Wp.loopF l.length (fun i => ⟨[(0, .list 2 es), (3, iv (i : Int))], [], [], 10000000⟩) (fun i => ∀ j (hj : j < l.length), j < i → checkD l[j] = 0)
 ·simp -implicitDefEqProofs (maxSteps := 2000000) (disch := first | exact tt_rfl rfl | omega | (simp only [go_sem] <;> omega) | fail) only [go_sem, norm_eq, Ok.some]
  rfl
 ·intro j hj h; omega
 intro i hi hn
 by_cases h : i < l.length
 ·have h1 := hg i h
  have h2 := hC i h
  by_cases hc : checkD l[i] = 0
  ·rw [hc] at h2
   repeat (first | apply Wp.seqA | apply Wp.skipS | apply Wp.blockS | ((first | apply Wp.regS | apply Wp.condV | apply Wp.reg | apply Wp.condW | apply fin_ret); simp -implicitDefEqProofs (maxSteps := 2000000) (disch := first | exact tt_rfl rfl | omega | (simp only [go_sem] <;> omega) | fail) only [go_sem, h, Int.ofNat_lt, h1, h2, hln] <;> try with_reducible rfl) | apply Wp.block | apply Wp.exitS | apply Wp.retS | apply Wp.exit | apply Wp.ret | apply Wp.skip)
   apply round_next
   ·simp -implicitDefEqProofs (maxSteps := 2000000) (disch := first | exact tt_rfl rfl | omega | (simp only [go_sem] <;> omega) | fail) only [go_sem, norm_eq, Ok.some]; with_reducible rfl
   refine ⟨h, by simp, fun j hj hji => ?_⟩
   by_cases e : j = i
   ·subst e; exact hc
   ·exact hn j hj (by omega)
  ·rw [firstE_at h hn hc]
   generalize checkD l[i] = c at *
   repeat (first | apply Wp.seqA | apply Wp.skipS | apply Wp.blockS | ((first | apply Wp.regS | apply Wp.condV | apply Wp.reg | apply Wp.condW | apply fin_ret); simp -implicitDefEqProofs (maxSteps := 2000000) (disch := first | exact tt_rfl rfl | omega | (simp only [go_sem] <;> omega) | fail) only [go_sem, h, Int.ofNat_lt, h1, h2, hln, hc] <;> try with_reducible rfl) | apply Wp.block | apply Wp.exitS | apply Wp.retS | apply Wp.exit | apply Wp.ret | apply Wp.skip)
 ·rw [firstE_none fun j hj => hn j hj (by omega)]
  repeat (first | apply Wp.seqA | apply Wp.skipS | apply Wp.blockS | ((first | apply Wp.regS | apply Wp.condV | apply Wp.reg | apply Wp.condW | apply fin_ret); simp -implicitDefEqProofs (maxSteps := 2000000) (disch := first | exact tt_rfl rfl | omega | (simp only [go_sem] <;> omega) | fail) only [go_sem, h, hln, Int.ofNat_lt] <;> try with_reducible rfl) | apply Wp.block | apply Wp.exitS | apply Wp.retS | apply Wp.exit | apply Wp.ret | apply Wp.skip)

/-! ### Beside -/
def besE (a b : DesA) : Int := if firstE [a, b] ≠ 0 then firstE [a, b] else if a.rows.length ≠ b.rows.length then 4 else if a.hk + b.hk > 24 then 8 else 0
theorem first2_zero {a b : DesA} (h : firstE [a, b] = 0) : checkD a = 0 ∧ checkD b = 0 := by
 unfold firstE at h
 split at h
 ·rename_i h1; exact absurd h h1
 ·rename_i h1
  unfold firstE at h
  split at h
  ·rename_i h2; exact absurd h h2
  ·rename_i h2
   exact ⟨Classical.not_not.1 h1, Classical.not_not.1 h2⟩
theorem first1_zero {a : DesA} (h : firstE [a] = 0) : checkD a = 0 := by
 unfold firstE at h
 split at h
 ·rename_i h1; exact absurd h h1
 ·rename_i h1; exact Classical.not_not.1 h1
theorem first2_n {a b : DesN} (ha : a.Ok) (hb : b.Ok) : firstE [a.a, b.a] = 0 := by
 unfold firstE
 rw [if_neg (by rw [checkD_ok ha]; simp)]
 unfold firstE
 rw [if_neg (by rw [checkD_ok hb]; simp)]; rfl
theorem first1_n {a : DesN} (ha : a.Ok) : firstE [a.a] = 0 := by
 unfold firstE
 rw [if_neg (by rw [checkD_ok ha]; simp)]; rfl
theorem Beside_ok (a b : DesN) (ha : a.Ok) (hb : b.Ok) (hr : a.rows.length = b.rows.length) (hh : a.hk + b.hk ≤ 24) : lim F 53 [a.av, b.av] = some (.tuple [(besideN a b).out, iv 0], []) := by
 have hc := checkL_ok [a.a, b.a] (by simp) (fun d hd => by
  have h1 := ha.r60
  have h2 := hb.r60
  simp at hd
  rcases hd with rfl | rfl
  ·simp [DesN.a]; omega
  ·simp [DesN.a]; omega)
 rw [first2_n ha hb] at hc
 change lim F _ [.list 2 [a.a.av, b.a.av]] = _ at hc
 rw [DesN.a_av, DesN.a_av] at hc
 have h60 := ha.r60
 have hr1 := ha.r1
 have hla : (natsV a.rows).length = a.rows.length := by simp
 have hlb : (natsV b.rows).length = a.rows.length := by simp [hr]
 have hga : ∀ i, i < a.rows.length → (natsV a.rows)[i]? = some (iv ((a.rows.getD i 0 : Nat) : Int)) := fun i h => nats_at h
 have hgb : ∀ i, i < a.rows.length → (natsV b.rows)[i]? = some (iv ((b.rows.getD i 0 : Nat) : Int)) := fun i h => nats_at (by omega)
 have hst : ∀ i, natsV ((List.range (i + 1)).map fun i => a.rows.getD i 0 ||| b.rows.getD i 0 * 2 ^ a.hk) = natsV ((List.range i).map fun i => a.rows.getD i 0 ||| b.rows.getD i 0 * 2 ^ a.hk) ++ [iv ((a.rows.getD i 0 ||| b.rows.getD i 0 * 2 ^ a.hk : Nat) : Int)] := fun i => by
  unfold natsV; rw [List.range_succ, List.map_append, List.map_append]; rfl
 have hl0 : ∀ i, (natsV ((List.range i).map fun i => a.rows.getD i 0 ||| b.rows.getD i 0 * 2 ^ a.hk)).length = i := fun i => by simp
 have hpl : (natsV ((List.range a.rows.length).map fun i => a.rows.getD i 0 ||| b.rows.getD i 0 * 2 ^ a.hk)).all AV.plain = true := nat_plain _
 have hlt := fun i (h : i < a.rows.length) => beside_lt ha hb h hr
 have hlb2 : ∀ i, i < a.rows.length → b.rows.getD i 0 < 2 ^ b.hk := fun i h => by rw [rows_get (show i < b.rows.length by omega)]; exact hb.lt _ (List.getElem_mem _)
 have hla2 : ∀ i, i < a.rows.length → a.rows.getD i 0 < 2 ^ a.hk := fun i h => by rw [rows_get h]; exact ha.lt _ (List.getElem_mem _)
 have hpp : 2 ^ b.hk * 2 ^ a.hk ≤ 2 ^ 24 := by rw [← Nat.pow_add]; exact Nat.pow_le_pow_right (by omega) (by omega)
 have hpa : 2 ^ a.hk ≤ 2 ^ 24 := Nat.pow_le_pow_right (by omega) (by omega)
 have hp0 : 0 < 2 ^ a.hk := Nat.pow_pos (by omega)
 have hres : (besideN a b).out = .agg [iv ((a.hk + b.hk : Nat) : Int), .own 1 (natsV ((List.range a.rows.length).map fun i => a.rows.getD i 0 ||| b.rows.getD i 0 * 2 ^ a.hk))] := rfl
 rw [hres]
 unfold DesN.av at *
 change lim F _ [.list 2 [.agg [_, .list 1 (natsV a.rows)], .agg [_, .list 1 (natsV b.rows)]]] = _ at hc
 change lim F _ [.agg [_, .list 1 (natsV a.rows)], .agg [_, .list 1 (natsV b.rows)]] = _
 have esum : (a.hk : Int) + (b.hk : Int) = ((a.hk + b.hk : Nat) : Int) := by omega
 generalize natsV a.rows = aa at *
 generalize natsV b.rows = bs at *
 refine lim_by (fn := a53) (k := 2) (res := [.cell 4 2 true, .tmp 5]) rfl rfl rfl (by simp -implicitDefEqProofs (maxSteps := 2000000) (disch := first | exact tt_rfl rfl | omega | (simp only [go_sem] <;> omega) | fail) only [go_sem]) ?_
 simp -implicitDefEqProofs (maxSteps := 2000000) (disch := first | exact tt_rfl rfl | omega | (simp only [go_sem] <;> omega) | fail) only [go_sem]
 repeat (first | apply Wp.seqA | apply Wp.skipS | apply Wp.blockS | ((first | apply Wp.regS | apply Wp.condV | apply Wp.reg | apply Wp.condW | apply fin_ret); simp -implicitDefEqProofs (maxSteps := 2000000) (disch := first | exact tt_rfl rfl | omega | (simp only [go_sem] <;> omega) | fail) only [go_sem, hc, hla, hlb, esum, show ¬ (24 : Int) < ((a.hk + b.hk : Nat) : Int) by omega] <;> try with_reducible rfl) | apply Wp.block | apply Wp.exitS | apply Wp.retS | apply Wp.exit | apply Wp.ret | apply Wp.skip)
 apply Wp.loopF a.rows.length (fun i => ⟨[(2, .ptr 128 0 0), (3, .ptr 192 0 0), (4, .ptr 256 0 0), (7, .ptr 448 0 0), (43, .list 1 aa), (44, iv (a.rows.length : Int)), (45, iv (i : Int))], [(128, .box [iv (a.hk : Int), .list 1 aa]), (192, .box [iv (b.hk : Int), .list 1 bs]), (256, .box [iv 0, .slice 304097 0 0]), (448, .box [iv ((a.hk + b.hk : Nat) : Int), .slice 307169 0 i]), (304097, .arr 1 []), (307169, .arr 1 (natsV ((List.range i).map fun i => a.rows.getD i 0 ||| b.rows.getD i 0 * 2 ^ a.hk)))], [], 10000000⟩) (fun _ => True)
 ·simp -implicitDefEqProofs (maxSteps := 2000000) (disch := first | exact tt_rfl rfl | omega | (simp only [go_sem] <;> omega) | fail) only [go_sem, norm_eq, Ok.some]
  rfl
 ·trivial
 intro i hi _
 by_cases h : i < a.rows.length
 ·have h1 := hga i h
  have h2 := hgb i h
  have h3 := hlb2 i h
  have h4 := hla2 i h
  have hs := hst i
  have hl := hl0 i
  have hmul : b.rows.getD i 0 * 2 ^ a.hk < 2 ^ 24 := Nat.lt_of_lt_of_le (Nat.mul_lt_mul_of_pos_right h3 hp0) hpp
  have w1 := w_shl (b.rows.getD i 0) a.hk (by omega) (by omega)
  have w2 := w_or (a.rows.getD i 0) (b.rows.getD i 0 * 2 ^ a.hk) (by omega) (by omega)
  generalize natsV ((List.range i).map fun i => a.rows.getD i 0 ||| b.rows.getD i 0 * 2 ^ a.hk) = es at *
  generalize natsV ((List.range (i + 1)).map fun i => a.rows.getD i 0 ||| b.rows.getD i 0 * 2 ^ a.hk) = es' at *
  clear hga hgb hst hl0 hlt hlb2 hla2 hpl
  generalize a.rows.getD i 0 ||| b.rows.getD i 0 * 2 ^ a.hk = v at *
  generalize b.rows.getD i 0 * 2 ^ a.hk = bm at *
  generalize a.rows.getD i 0 = ra at *
  generalize b.rows.getD i 0 = rb at *
  repeat (first | apply Wp.seqA | apply Wp.skipS | apply Wp.blockS | ((first | apply Wp.regS | apply Wp.condV | apply Wp.reg | apply Wp.condW | apply fin_ret); simp -implicitDefEqProofs (maxSteps := 2000000) (disch := first | exact tt_rfl rfl | omega | (simp only [go_sem] <;> omega) | fail) only [go_sem, h, Int.ofNat_lt, hla, hlb, h1, h2, hl, w1, w2, Int.toNat_natCast, show ¬ (a.hk : Int) < 0 by omega] <;> try with_reducible rfl) | apply Wp.block | apply Wp.exitS | apply Wp.retS | apply Wp.exit | apply Wp.ret | apply Wp.skip)
  apply round_next
  ·simp -implicitDefEqProofs (maxSteps := 2000000) (disch := first | exact tt_rfl rfl | omega | (simp only [go_sem] <;> omega) | fail) only [go_sem, norm_eq, Ok.some]; with_reducible rfl
  refine ⟨h, ?_, trivial⟩
  rw [hs]
  simp
 ·obtain rfl : i = a.rows.length := by omega
  have hl := hl0 a.rows.length
  generalize natsV ((List.range a.rows.length).map fun i => a.rows.getD i 0 ||| b.rows.getD i 0 * 2 ^ a.hk) = es at *
  repeat (first | apply Wp.seqA | apply Wp.skipS | apply Wp.blockS | ((first | apply Wp.regS | apply Wp.condV | apply Wp.reg | apply Wp.condW | apply fin_ret); simp -implicitDefEqProofs (maxSteps := 2000000) (disch := first | exact tt_rfl rfl | omega | (simp only [go_sem] <;> omega) | fail) only [go_sem, Int.lt_irrefl, hl, hpl, List.take_of_length_le (show es.length ≤ a.rows.length by omega)] <;> try with_reducible rfl) | apply Wp.block | apply Wp.exitS | apply Wp.retS | apply Wp.exit | apply Wp.ret | apply Wp.skip)

/-! ### Above -/
theorem Grow_ok (n : Nat) (h0 : 0 < n) (hn : n ≤ 1000) : lim F 104 [.const (.slice none 0 0), iv (n : Int)] = some (.own 1 [], []) := by
 have hpl : (List.replicate n (AV.int .i64 0)).all AV.plain = true := by simp [AV.plain, AV.plain1]
 have hex : ∀ id, exSl id 0 0 (.arr 1 (List.replicate n (AV.int .i64 0))) = some ⟨.own 1 [], [id], []⟩ := fun id => exSl_prefix id 0 1 _ (by rw [List.length_replicate]; exact h0)
 refine lim_by (fn := a104) (k := 2) (res := [.tmp 4]) rfl rfl rfl (by simp -implicitDefEqProofs (maxSteps := 2000000) (disch := first | exact tt_rfl rfl | omega | (simp only [go_sem] <;> omega) | fail) only [go_sem]) ?_
 simp -implicitDefEqProofs (maxSteps := 2000000) (disch := first | exact tt_rfl rfl | omega | (simp only [go_sem] <;> omega) | fail) only [go_sem]
 repeat (first | apply Wp.seqA | apply Wp.skipS | apply Wp.blockS | ((first | apply Wp.regS | apply Wp.condV | apply Wp.reg | apply Wp.condW | apply fin_ret); simp -implicitDefEqProofs (maxSteps := 2000000) (disch := first | exact tt_rfl rfl | omega | (simp only [go_sem] <;> omega) | fail) only [go_sem, Int.sub_zero, hpl, hex, show ¬ (n : Int) < 0 by omega, show (0 : Int) < n by omega] <;> try with_reducible rfl) | apply Wp.block | apply Wp.exitS | apply Wp.retS | apply Wp.exit | apply Wp.ret | apply Wp.skip)
theorem Concat_ok (a b : List Nat) (ha : 0 < a.length) (hab : a.length + b.length ≤ 1000) : lim F 89 [.list 1 [.list 1 (natsV a), .list 1 (natsV b)]] = some (.own 1 (natsV (a ++ b)), []) := by
 have hG := Grow_ok (a.length + b.length) (by omega) hab
 have hla : (natsV a).length = a.length := by simp
 have hlb : (natsV b).length = b.length := by simp
 have hap : natsV (a ++ b) = natsV a ++ natsV b := by unfold natsV; rw [List.map_append]
 have hpl : (natsV a ++ natsV b).all AV.plain = true := by rw [← hap]; exact nat_plain (a ++ b)
 rw [hap]
 have esum : (a.length : Int) + (b.length : Int) = ((a.length + b.length : Nat) : Int) := by omega
 generalize natsV a = as' at *
 generalize natsV b = bs' at *
 refine lim_by (fn := a89) (k := 1) (res := [.tmp 2]) rfl rfl rfl (by simp -implicitDefEqProofs (maxSteps := 2000000) (disch := first | exact tt_rfl rfl | omega | (simp only [go_sem] <;> omega) | fail) only [go_sem]) ?_
 simp -implicitDefEqProofs (maxSteps := 2000000) (disch := first | exact tt_rfl rfl | omega | (simp only [go_sem] <;> omega) | fail) only [go_sem]
 repeat (first | apply Wp.seqA | apply Wp.skipS | apply Wp.blockS | ((first | apply Wp.regS | apply Wp.condV | apply Wp.reg | apply Wp.condW | apply fin_ret); simp -implicitDefEqProofs (maxSteps := 2000000) (disch := first | exact tt_rfl rfl | omega | (simp only [go_sem] <;> omega) | fail) only [go_sem, hla, hlb] <;> try with_reducible rfl) | apply Wp.block | apply Wp.exitS | apply Wp.retS | apply Wp.exit | apply Wp.ret | apply Wp.skip)
 apply Wp.loopF 2 (fun i => ⟨[(0, .list 1 [.list 1 as', .list 1 bs']), (3, iv ((if i = 0 then 0 else if i = 1 then a.length else a.length + b.length : Nat) : Int)), (9, .list 1 [.list 1 as', .list 1 bs']), (10, iv 2), (11, iv (i : Int))], [], [], 10000000⟩) (fun _ => True)
 ·simp -implicitDefEqProofs (maxSteps := 2000000) (disch := first | exact tt_rfl rfl | omega | (simp only [go_sem] <;> omega) | fail) only [go_sem, norm_eq, Ok.some]
  rfl
 ·trivial
 intro i hi _
 have : i = 0 ∨ i = 1 ∨ i = 2 := by omega
 rcases this with rfl | rfl | rfl
 ·repeat (first | apply Wp.seqA | apply Wp.skipS | apply Wp.blockS | ((first | apply Wp.regS | apply Wp.condV | apply Wp.reg | apply Wp.condW | apply fin_ret); simp -implicitDefEqProofs (maxSteps := 2000000) (disch := first | exact tt_rfl rfl | omega | (simp only [go_sem] <;> omega) | fail) only [go_sem, hla, hlb, show ¬ (a.length : Int) < 0 by omega, Int.zero_add] <;> try with_reducible rfl) | apply Wp.block | apply Wp.exitS | apply Wp.retS | apply Wp.exit | apply Wp.ret | apply Wp.skip)
  apply round_next
  ·simp -implicitDefEqProofs (maxSteps := 2000000) (disch := first | exact tt_rfl rfl | omega | (simp only [go_sem] <;> omega) | fail) only [go_sem, norm_eq, Ok.some]; with_reducible rfl
  exact ⟨by omega, by simp, trivial⟩
 ·repeat (first | apply Wp.seqA | apply Wp.skipS | apply Wp.blockS | ((first | apply Wp.regS | apply Wp.condV | apply Wp.reg | apply Wp.condW | apply fin_ret); simp -implicitDefEqProofs (maxSteps := 2000000) (disch := first | exact tt_rfl rfl | omega | (simp only [go_sem] <;> omega) | fail) only [go_sem, hla, hlb, esum] <;> try with_reducible rfl) | apply Wp.block | apply Wp.exitS | apply Wp.retS | apply Wp.exit | apply Wp.ret | apply Wp.skip)
  apply round_next
  ·simp -implicitDefEqProofs (maxSteps := 2000000) (disch := first | exact tt_rfl rfl | omega | (simp only [go_sem] <;> omega) | fail) only [go_sem, norm_eq, Ok.some]; with_reducible rfl
  exact ⟨by omega, by simp, trivial⟩
 ·repeat (first | apply Wp.seqA | apply Wp.skipS | apply Wp.blockS | ((first | apply Wp.regS | apply Wp.condV | apply Wp.reg | apply Wp.condW | apply fin_ret); simp -implicitDefEqProofs (maxSteps := 2000000) (disch := first | exact tt_rfl rfl | omega | (simp only [go_sem] <;> omega) | fail) only [go_sem, hla, hlb, hG] <;> try with_reducible rfl) | apply Wp.block | apply Wp.exitS | apply Wp.retS | apply Wp.exit | apply Wp.ret | apply Wp.skip)
  apply Wp.loopF 2 (fun i => ⟨[(6, .slice 384 0 (if i = 0 then 0 else if i = 1 then a.length else a.length + b.length)), (25, .list 1 [.list 1 as', .list 1 bs']), (26, iv 2), (27, iv (i : Int))], [(384, .arr 1 (if i = 0 then [] else if i = 1 then as' else as' ++ bs'))], [], 10000000⟩) (fun _ => True)
  ·simp -implicitDefEqProofs (maxSteps := 2000000) (disch := first | exact tt_rfl rfl | omega | (simp only [go_sem] <;> omega) | fail) only [go_sem, norm_eq, Ok.some]
   rfl
  ·trivial
  intro i hi _
  have : i = 0 ∨ i = 1 ∨ i = 2 := by omega
  rcases this with rfl | rfl | rfl
  ·repeat (first | apply Wp.seqA | apply Wp.skipS | apply Wp.blockS | ((first | apply Wp.regS | apply Wp.condV | apply Wp.reg | apply Wp.condW | apply fin_ret); simp -implicitDefEqProofs (maxSteps := 2000000) (disch := first | exact tt_rfl rfl | omega | (simp only [go_sem] <;> omega) | fail) only [go_sem, hla, hlb] <;> try with_reducible rfl) | apply Wp.block | apply Wp.exitS | apply Wp.retS | apply Wp.exit | apply Wp.ret | apply Wp.skip)
   apply round_next
   ·simp -implicitDefEqProofs (maxSteps := 2000000) (disch := first | exact tt_rfl rfl | omega | (simp only [go_sem] <;> omega) | fail) only [go_sem, norm_eq, Ok.some]; with_reducible rfl
   exact ⟨by omega, by simp [hla], trivial⟩
  ·repeat (first | apply Wp.seqA | apply Wp.skipS | apply Wp.blockS | ((first | apply Wp.regS | apply Wp.condV | apply Wp.reg | apply Wp.condW | apply fin_ret); simp -implicitDefEqProofs (maxSteps := 2000000) (disch := first | exact tt_rfl rfl | omega | (simp only [go_sem] <;> omega) | fail) only [go_sem, hla, hlb] <;> try with_reducible rfl) | apply Wp.block | apply Wp.exitS | apply Wp.retS | apply Wp.exit | apply Wp.ret | apply Wp.skip)
   apply round_next
   ·simp -implicitDefEqProofs (maxSteps := 2000000) (disch := first | exact tt_rfl rfl | omega | (simp only [go_sem] <;> omega) | fail) only [go_sem, norm_eq, Ok.some]; with_reducible rfl
   exact ⟨by omega, by simp [hla, hlb], trivial⟩
  ·have hlab : (as' ++ bs').length = a.length + b.length := by rw [List.length_append, hla, hlb]
   generalize as' ++ bs' = cs at *
   repeat (first | apply Wp.seqA | apply Wp.skipS | apply Wp.blockS | ((first | apply Wp.regS | apply Wp.condV | apply Wp.reg | apply Wp.condW | apply fin_ret); simp -implicitDefEqProofs (maxSteps := 2000000) (disch := first | exact tt_rfl rfl | omega | (simp only [go_sem] <;> omega) | fail) only [go_sem, hla, hlb, hlab, hpl] <;> try with_reducible rfl) | apply Wp.block | apply Wp.exitS | apply Wp.retS | apply Wp.exit | apply Wp.ret | apply Wp.skip)
theorem Above_ok (a b : DesN) (ha : a.Ok) (hb : b.Ok) (hk : a.hk = b.hk) (hr : a.rows.length + b.rows.length ≤ 60) : lim F 54 [a.av, b.av] = some (.tuple [(aboveN a b).out, iv 0], []) := by
 have hc := checkL_ok [a.a, b.a] (by simp) (fun d hd => by
  simp at hd
  rcases hd with rfl | rfl
  ·simp [DesN.a]; omega
  ·simp [DesN.a]; omega)
 rw [first2_n ha hb] at hc
 change lim F _ [.list 2 [a.a.av, b.a.av]] = _ at hc
 rw [DesN.a_av, DesN.a_av] at hc
 have hr1 := ha.r1
 have hC := Concat_ok a.rows b.rows (by omega) (by omega)
 have hla : (natsV a.rows).length = a.rows.length := by simp
 have hlb : (natsV b.rows).length = b.rows.length := by simp
 have hlab : (natsV (a.rows ++ b.rows)).length = a.rows.length + b.rows.length := by simp
 have hpl : (natsV (a.rows ++ b.rows)).all AV.plain = true := nat_plain _
 have htk : (natsV (a.rows ++ b.rows)).take (a.rows.length + b.rows.length) = natsV (a.rows ++ b.rows) := List.take_of_length_le (by omega)
 have hres : (aboveN a b).out = .agg [iv (a.hk : Int), .own 1 (natsV (a.rows ++ b.rows))] := rfl
 rw [hres]
 unfold DesN.av at *
 rw [← hk] at hc
 rw [← hk]
 change lim F _ [.list 2 [.agg [_, .list 1 (natsV a.rows)], .agg [_, .list 1 (natsV b.rows)]]] = _ at hc
 change lim F _ [.agg [_, .list 1 (natsV a.rows)], .agg [_, .list 1 (natsV b.rows)]] = _
 generalize natsV (a.rows ++ b.rows) = cs at *
 generalize natsV a.rows = aa at *
 generalize natsV b.rows = bs at *
 refine lim_by (fn := a54) (k := 2) (res := [.cell 4 2 true, .tmp 5]) rfl rfl rfl (by simp -implicitDefEqProofs (maxSteps := 2000000) (disch := first | exact tt_rfl rfl | omega | (simp only [go_sem] <;> omega) | fail) only [go_sem]) ?_
 simp -implicitDefEqProofs (maxSteps := 2000000) (disch := first | exact tt_rfl rfl | omega | (simp only [go_sem] <;> omega) | fail) only [go_sem]
 repeat (first | apply Wp.seqA | apply Wp.skipS | apply Wp.blockS | ((first | apply Wp.regS | apply Wp.condV | apply Wp.reg | apply Wp.condW | apply fin_ret); simp -implicitDefEqProofs (maxSteps := 2000000) (disch := first | exact tt_rfl rfl | omega | (simp only [go_sem] <;> omega) | fail) only [go_sem, hc, hC, hla, hlb, hlab, hpl, htk, show ¬ (60 : Int) < (a.rows.length : Int) + (b.rows.length : Int) by omega] <;> try with_reducible rfl) | apply Wp.block | apply Wp.exitS | apply Wp.retS | apply Wp.exit | apply Wp.ret | apply Wp.skip)

/-! ### Errors -/
theorem Beside_bad (a b : DesA) (ha : a.rows.length ≤ 1000) (hb : b.rows.length ≤ 1000) (he : besE a b ≠ 0) : lim F 53 [a.av, b.av] = some (.tuple [.agg [iv 0, .own 1 []], iv (besE a b)], []) := by
 have hc := checkL_ok [a, b] (by simp) (fun d hd => by
  simp at hd
  rcases hd with rfl | rfl
  ·exact ha
  ·exact hb)
 change lim F _ [.list 2 [a.av, b.av]] = _ at hc
 unfold besE at *
 have hla : (a.rows.map fun n => iv n).length = a.rows.length := by simp
 have hlb : (b.rows.map fun n => iv n).length = b.rows.length := by simp
 have hz := first2_zero (a := a) (b := b)
 unfold DesA.av at *
 generalize firstE [a, b] = f at *
 generalize a.rows.map (fun n => iv n) = aa at *
 generalize b.rows.map (fun n => iv n) = bs at *
 by_cases h1 : f = 0
 ·subst h1
  obtain ⟨ca, cb⟩ := hz rfl
  obtain ⟨na, oka, rfl⟩ := checkD_zero ca
  obtain ⟨nb, okb, rfl⟩ := checkD_zero cb
  have := oka.h24
  have := okb.h24
  rw [show na.a.hk = (na.hk : Int) from rfl, show nb.a.hk = (nb.hk : Int) from rfl] at *
  rw [if_neg (by simp)] at he
  rw [if_neg (by simp)]
  by_cases h2 : na.a.rows.length = nb.a.rows.length
  ·rw [if_neg (by simpa using h2)] at he
   rw [if_neg (by simpa using h2)]
   by_cases h3 : (na.hk : Int) + (nb.hk : Int) > 24
   ·rw [if_pos h3]
    refine lim_by (fn := a53) (k := 2) (res := [.cell 4 2 true, .tmp 5]) rfl rfl rfl (by simp -implicitDefEqProofs (maxSteps := 2000000) (disch := first | exact tt_rfl rfl | omega | (simp only [go_sem] <;> omega) | fail) only [go_sem]) ?_
    simp -implicitDefEqProofs (maxSteps := 2000000) (disch := first | exact tt_rfl rfl | omega | (simp only [go_sem] <;> omega) | fail) only [go_sem]
    repeat (first | apply Wp.seqA | apply Wp.skipS | apply Wp.blockS | ((first | apply Wp.regS | apply Wp.condV | apply Wp.reg | apply Wp.condW | apply fin_ret); simp -implicitDefEqProofs (maxSteps := 2000000) (disch := first | exact tt_rfl rfl | omega | (simp only [go_sem] <;> omega) | fail) only [go_sem, hc, hla, hlb, h2, h3, show (24 : Int) < (na.hk : Int) + (nb.hk : Int) by omega] <;> try with_reducible rfl) | apply Wp.block | apply Wp.exitS | apply Wp.retS | apply Wp.exit | apply Wp.ret | apply Wp.skip)
   ·rw [if_neg h3] at he
    exact absurd rfl he
  ·rw [if_pos h2]
   refine lim_by (fn := a53) (k := 2) (res := [.cell 4 2 true, .tmp 5]) rfl rfl rfl (by simp -implicitDefEqProofs (maxSteps := 2000000) (disch := first | exact tt_rfl rfl | omega | (simp only [go_sem] <;> omega) | fail) only [go_sem]) ?_
   simp -implicitDefEqProofs (maxSteps := 2000000) (disch := first | exact tt_rfl rfl | omega | (simp only [go_sem] <;> omega) | fail) only [go_sem]
   repeat (first | apply Wp.seqA | apply Wp.skipS | apply Wp.blockS | ((first | apply Wp.regS | apply Wp.condV | apply Wp.reg | apply Wp.condW | apply fin_ret); simp -implicitDefEqProofs (maxSteps := 2000000) (disch := first | exact tt_rfl rfl | omega | (simp only [go_sem] <;> omega) | fail) only [go_sem, hc, hla, hlb, show ¬ (na.a.rows.length : Int) = (nb.a.rows.length : Int) by omega] <;> try with_reducible rfl) | apply Wp.block | apply Wp.exitS | apply Wp.retS | apply Wp.exit | apply Wp.ret | apply Wp.skip)
 ·rw [if_pos h1]
  refine lim_by (fn := a53) (k := 2) (res := [.cell 4 2 true, .tmp 5]) rfl rfl rfl (by simp -implicitDefEqProofs (maxSteps := 2000000) (disch := first | exact tt_rfl rfl | omega | (simp only [go_sem] <;> omega) | fail) only [go_sem]) ?_
  simp -implicitDefEqProofs (maxSteps := 2000000) (disch := first | exact tt_rfl rfl | omega | (simp only [go_sem] <;> omega) | fail) only [go_sem]
  repeat (first | apply Wp.seqA | apply Wp.skipS | apply Wp.blockS | ((first | apply Wp.regS | apply Wp.condV | apply Wp.reg | apply Wp.condW | apply fin_ret); simp -implicitDefEqProofs (maxSteps := 2000000) (disch := first | exact tt_rfl rfl | omega | (simp only [go_sem] <;> omega) | fail) only [go_sem, hc, h1] <;> try with_reducible rfl) | apply Wp.block | apply Wp.exitS | apply Wp.retS | apply Wp.exit | apply Wp.ret | apply Wp.skip)
def aboE (a b : DesA) : Int := if firstE [a, b] ≠ 0 then firstE [a, b] else if a.hk ≠ b.hk then 4 else if a.rows.length + b.rows.length > 60 then 8 else 0
theorem Above_bad (a b : DesA) (ha : a.rows.length ≤ 1000) (hb : b.rows.length ≤ 1000) (he : aboE a b ≠ 0) : lim F 54 [a.av, b.av] = some (.tuple [.agg [iv 0, .own 1 []], iv (aboE a b)], []) := by
 have hc := checkL_ok [a, b] (by simp) (fun d hd => by
  simp at hd
  rcases hd with rfl | rfl
  ·exact ha
  ·exact hb)
 change lim F _ [.list 2 [a.av, b.av]] = _ at hc
 unfold aboE at *
 have hla : (a.rows.map fun n => iv n).length = a.rows.length := by simp
 have hlb : (b.rows.map fun n => iv n).length = b.rows.length := by simp
 unfold DesA.av at *
 generalize firstE [a, b] = f at *
 generalize a.rows.map (fun n => iv n) = aa at *
 generalize b.rows.map (fun n => iv n) = bs at *
 by_cases h1 : f = 0
 ·subst h1
  rw [if_neg (by simp)] at he
  rw [if_neg (by simp)]
  by_cases h2 : a.hk = b.hk
  ·rw [if_neg (by simpa using h2)] at he
   rw [if_neg (by simpa using h2)]
   by_cases h3 : a.rows.length + b.rows.length > 60
   ·rw [if_pos h3]
    rw [h2] at hc
    rw [h2]
    refine lim_by (fn := a54) (k := 2) (res := [.cell 4 2 true, .tmp 5]) rfl rfl rfl (by simp -implicitDefEqProofs (maxSteps := 2000000) (disch := first | exact tt_rfl rfl | omega | (simp only [go_sem] <;> omega) | fail) only [go_sem]) ?_
    simp -implicitDefEqProofs (maxSteps := 2000000) (disch := first | exact tt_rfl rfl | omega | (simp only [go_sem] <;> omega) | fail) only [go_sem]
    repeat (first | apply Wp.seqA | apply Wp.skipS | apply Wp.blockS | ((first | apply Wp.regS | apply Wp.condV | apply Wp.reg | apply Wp.condW | apply fin_ret); simp -implicitDefEqProofs (maxSteps := 2000000) (disch := first | exact tt_rfl rfl | omega | (simp only [go_sem] <;> omega) | fail) only [go_sem, hc, hla, hlb, show (60 : Int) < (a.rows.length : Int) + (b.rows.length : Int) by omega] <;> try with_reducible rfl) | apply Wp.block | apply Wp.exitS | apply Wp.retS | apply Wp.exit | apply Wp.ret | apply Wp.skip)
   ·rw [if_neg h3] at he
    exact absurd rfl he
  ·rw [if_pos h2]
   refine lim_by (fn := a54) (k := 2) (res := [.cell 4 2 true, .tmp 5]) rfl rfl rfl (by simp -implicitDefEqProofs (maxSteps := 2000000) (disch := first | exact tt_rfl rfl | omega | (simp only [go_sem] <;> omega) | fail) only [go_sem]) ?_
   simp -implicitDefEqProofs (maxSteps := 2000000) (disch := first | exact tt_rfl rfl | omega | (simp only [go_sem] <;> omega) | fail) only [go_sem]
   repeat (first | apply Wp.seqA | apply Wp.skipS | apply Wp.blockS | ((first | apply Wp.regS | apply Wp.condV | apply Wp.reg | apply Wp.condW | apply fin_ret); simp -implicitDefEqProofs (maxSteps := 2000000) (disch := first | exact tt_rfl rfl | omega | (simp only [go_sem] <;> omega) | fail) only [go_sem, hc, hla, hlb, h2] <;> try with_reducible rfl) | apply Wp.block | apply Wp.exitS | apply Wp.retS | apply Wp.exit | apply Wp.ret | apply Wp.skip)
 ·rw [if_pos h1]
  refine lim_by (fn := a54) (k := 2) (res := [.cell 4 2 true, .tmp 5]) rfl rfl rfl (by simp -implicitDefEqProofs (maxSteps := 2000000) (disch := first | exact tt_rfl rfl | omega | (simp only [go_sem] <;> omega) | fail) only [go_sem]) ?_
  simp -implicitDefEqProofs (maxSteps := 2000000) (disch := first | exact tt_rfl rfl | omega | (simp only [go_sem] <;> omega) | fail) only [go_sem]
  repeat (first | apply Wp.seqA | apply Wp.skipS | apply Wp.blockS | ((first | apply Wp.regS | apply Wp.condV | apply Wp.reg | apply Wp.condW | apply fin_ret); simp -implicitDefEqProofs (maxSteps := 2000000) (disch := first | exact tt_rfl rfl | omega | (simp only [go_sem] <;> omega) | fail) only [go_sem, hc, h1] <;> try with_reducible rfl) | apply Wp.block | apply Wp.exitS | apply Wp.retS | apply Wp.exit | apply Wp.ret | apply Wp.skip)
def refE (a : DesA) : Int := if firstE [a] ≠ 0 then firstE [a] else if a.hk + max 0 (a.hk - 2) > 24 then 8 else 0
theorem Reflect_bad (a : DesA) (ha : a.rows.length ≤ 1000) (he : refE a ≠ 0) : lim F 55 [a.av] = some (.tuple [.agg [iv 0, .own 1 []], iv (refE a)], []) := by
 have hc := Check_ok a (by omega)
 have hf : firstE [a] = checkD a := by
  unfold firstE
  by_cases h : checkD a = 0
  ·rw [if_neg (by simpa using h), h]; rfl
  ·rw [if_pos h]
 unfold refE at *
 rw [hf] at he
 rw [hf]
 unfold DesA.av at *
 by_cases h1 : checkD a = 0
 ·obtain ⟨na, oka, rfl⟩ := checkD_zero h1
  have := oka.h24
  rw [h1] at hc he
  rw [h1]
  rw [show na.a.hk = (na.hk : Int) from rfl] at *
  generalize na.a.rows.map (fun n => iv n) = aa at *
  rw [if_neg (by simp)] at he
  rw [if_neg (by simp)]
  by_cases h3 : (na.hk : Int) + max 0 ((na.hk : Int) - 2) > 24
  ·rw [if_pos h3]
   have em : max (0 : Int) ((na.hk : Int) - 2) = (na.hk : Int) - 2 := by omega
   rw [em] at h3
   refine lim_by (fn := a55) (k := 1) (res := [.cell 2 2 true, .tmp 3]) rfl rfl rfl (by simp -implicitDefEqProofs (maxSteps := 2000000) (disch := first | exact tt_rfl rfl | omega | (simp only [go_sem] <;> omega) | fail) only [go_sem]) ?_
   simp -implicitDefEqProofs (maxSteps := 2000000) (disch := first | exact tt_rfl rfl | omega | (simp only [go_sem] <;> omega) | fail) only [go_sem]
   repeat (first | apply Wp.seqA | apply Wp.skipS | apply Wp.blockS | ((first | apply Wp.regS | apply Wp.condV | apply Wp.reg | apply Wp.condW | apply fin_ret); simp -implicitDefEqProofs (maxSteps := 2000000) (disch := first | exact tt_rfl rfl | omega | (simp only [go_sem] <;> omega) | fail) only [go_sem, hc, em, h3] <;> try with_reducible rfl) | apply Wp.block | apply Wp.exitS | apply Wp.retS | apply Wp.exit | apply Wp.ret | apply Wp.skip)
  ·rw [if_neg h3] at he
   exact absurd rfl he
 ·rw [if_pos h1]
  generalize checkD a = f at *
  refine lim_by (fn := a55) (k := 1) (res := [.cell 2 2 true, .tmp 3]) rfl rfl rfl (by simp -implicitDefEqProofs (maxSteps := 2000000) (disch := first | exact tt_rfl rfl | omega | (simp only [go_sem] <;> omega) | fail) only [go_sem]) ?_
  simp -implicitDefEqProofs (maxSteps := 2000000) (disch := first | exact tt_rfl rfl | omega | (simp only [go_sem] <;> omega) | fail) only [go_sem]
  repeat (first | apply Wp.seqA | apply Wp.skipS | apply Wp.blockS | ((first | apply Wp.regS | apply Wp.condV | apply Wp.reg | apply Wp.condW | apply fin_ret); simp -implicitDefEqProofs (maxSteps := 2000000) (disch := first | exact tt_rfl rfl | omega | (simp only [go_sem] <;> omega) | fail) only [go_sem, hc, h1] <;> try with_reducible rfl) | apply Wp.block | apply Wp.exitS | apply Wp.retS | apply Wp.exit | apply Wp.ret | apply Wp.skip)
theorem reflA_ok (d : DesN) (hd : d.Ok) (H p h : Nat) (hH : H ≤ 1000) (hp : p ≤ 1000) (hh : h ≤ H) : lim F 90 [iv (p : Int), iv (h : Int), .iptr (desV d) 0, .iptr (.agg [iv (H : Int)]) 0] = some (.bool (atN d p (min h (H - h))), []) := by
 have a1 := at_ok d hd p (min h (H - h)) (by omega) (by omega)
 have e1 : max (0 : Int) ((H : Int) - (h : Int)) = ((H - h : Nat) : Int) := by omega
 have e2 : min (h : Int) ((H - h : Nat) : Int) = ((min h (H - h) : Nat) : Int) := by omega
 unfold desV
 change lim F _ [.agg [_, .list 1 (natsV d.rows)], _, _] = _ at a1
 generalize natsV d.rows = rs at *
 generalize min h (H - h) = m at *
 refine lim_by (fn := a90) (k := 4) (res := [.tmp 6]) rfl rfl rfl (by simp -implicitDefEqProofs (maxSteps := 2000000) (disch := first | exact tt_rfl rfl | omega | (simp only [go_sem] <;> omega) | fail) only [go_sem]) ?_
 simp -implicitDefEqProofs (maxSteps := 2000000) (disch := first | exact tt_rfl rfl | omega | (simp only [go_sem] <;> omega) | fail) only [go_sem]
 repeat (first | apply Wp.seqA | apply Wp.skipS | apply Wp.blockS | ((first | apply Wp.regS | apply Wp.condV | apply Wp.reg | apply Wp.condW | apply fin_ret); simp -implicitDefEqProofs (maxSteps := 2000000) (disch := first | exact tt_rfl rfl | omega | (simp only [go_sem] <;> omega) | fail) only [go_sem, e1, e2, a1] <;> try with_reducible rfl) | apply Wp.block | apply Wp.exitS | apply Wp.retS | apply Wp.exit | apply Wp.ret | apply Wp.skip)
theorem Reflect_ok (d : DesN) (hd : d.Ok) (hh : reflH d ≤ 24) : lim F 55 [d.av] = some (.tuple [(reflectN d).out, iv 0], []) := by
 have h24 := hd.h24
 have h60 := hd.r60
 have hh1 := hd.h1
 have hc := Check_ok d.a (by simp [DesN.a]; omega)
 rw [checkD_ok hd, DesN.a_av] at hc
 have hM := made2_ok d.rows.length (reflH d) 90 (desV d) (.agg [iv (reflH d : Int)]) (fun p h => atN d p (min h (reflH d - h))) (by omega) hh (fun p h hp hh' => reflA_ok d hd (reflH d) p h (by omega) (by omega) (by omega))
 have hpl := nat_plain (reflectN d).rows
 have hln : (natsV (reflectN d).rows).length = d.rows.length := by simp [reflectN, madeN]
 have hln2 : (natsV d.rows).length = d.rows.length := by simp
 have e1 : (natsV (reflectN d).rows).take d.rows.length = natsV (reflectN d).rows := List.take_of_length_le (by omega)
 have hres : (reflectN d).out = .agg [iv (reflH d : Int), .own 1 (natsV (reflectN d).rows)] := rfl
 rw [hres]
 change lim F _ _ = some (AV.agg [iv (reflH d : Int), .own 1 (natsV (reflectN d).rows)], []) at hM
 change (natsV (reflectN d).rows).all AV.plain = true at hpl
 have em : (d.hk : Int) + max (0 : Int) ((d.hk : Int) - 2) = (reflH d : Int) := by unfold reflH; omega
 unfold DesN.av desV at *
 change lim F _ [.agg [_, .list 1 (natsV d.rows)]] = _ at hc
 change lim F _ [.agg [_, .list 1 (natsV d.rows)]] = _
 generalize natsV (reflectN d).rows = es at *
 generalize natsV d.rows = rg at *
 generalize reflH d = H at *
 refine lim_by (fn := a55) (k := 1) (res := [.cell 2 2 true, .tmp 3]) rfl rfl rfl (by simp -implicitDefEqProofs (maxSteps := 2000000) (disch := first | exact tt_rfl rfl | omega | (simp only [go_sem] <;> omega) | fail) only [go_sem]) ?_
 simp -implicitDefEqProofs (maxSteps := 2000000) (disch := first | exact tt_rfl rfl | omega | (simp only [go_sem] <;> omega) | fail) only [go_sem]
 repeat (first | apply Wp.seqA | apply Wp.skipS | apply Wp.blockS | ((first | apply Wp.regS | apply Wp.condV | apply Wp.reg | apply Wp.condW | apply fin_ret); simp -implicitDefEqProofs (maxSteps := 2000000) (disch := first | exact tt_rfl rfl | omega | (simp only [go_sem] <;> omega) | fail) only [go_sem, hc, em, hM, hpl, hln, hln2, e1, show ¬ (24 : Int) < (H : Int) by omega] <;> try with_reducible rfl) | apply Wp.block | apply Wp.exitS | apply Wp.retS | apply Wp.exit | apply Wp.ret | apply Wp.skip)
end Go.Abs
