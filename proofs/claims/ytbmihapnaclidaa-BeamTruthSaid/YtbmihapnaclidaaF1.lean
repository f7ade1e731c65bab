/-
  Chapter 6: contracts of figures and of relaxing. No condition beyond those that each theorem names.
-/
import Derived.Test.YtbmihapnaclidaaW1
import Derived.Test.YtbmihapnaclidaaI1
set_option linter.all false
namespace Go.Abs
set_option maxRecDepth 10000
set_option maxHeartbeats 2000000

/-- how long a figure of p picks is, of a cloth that takes up n parts of d a pick and relaxes by r thousandths -/
def longR (n d p r : Int) : Int := p * n * (1000 - r) / (d * 1000)
structure ROk (n d p : Int) : Prop where
  n0 : 1 ≤ n
  n1 : n ≤ 25000000000
  d0 : 1 ≤ d
  d1 : d ≤ 1000000
  p0 : 0 ≤ p
  p1 : p ≤ 100000
theorem ROk.a {n d p : Int} (h : ROk n d p) : 0 ≤ p * n ∧ p * n ≤ 2500000000000000 := by
  have h1 : 0 ≤ p * n := Int.mul_nonneg h.p0 (by have := h.n0; omega)
  have h2 := Int.mul_le_mul h.p1 h.n1 (by have := h.n0; omega) (by omega)
  exact ⟨h1, by omega⟩
theorem ROk.b {n d p r : Int} (h : ROk n d p) (h0 : 0 ≤ r) (h1 : r ≤ 1000) : 0 ≤ p * n * (1000 - r) ∧ p * n * (1000 - r) ≤ 2500000000000000000 := by
  have ha := h.a
  have h1' : 0 ≤ p * n * (1000 - r) := Int.mul_nonneg ha.1 (by omega)
  have h2 := Int.mul_le_mul ha.2 (show 1000 - r ≤ 1000 by omega) (by omega) (by omega)
  exact ⟨h1', by omega⟩
theorem ROk.l {n d p r : Int} (h : ROk n d p) (h0 : 0 ≤ r) (h1 : r ≤ 1000) : 0 ≤ longR n d p r ∧ longR n d p r ≤ 2500000000000000000 := by
  have hb := h.b h0 h1
  have hd := h.d0
  have h3 : 0 ≤ longR n d p r := Int.ediv_nonneg hb.1 (by omega)
  have h4 : longR n d p r ≤ p * n * (1000 - r) := Int.ediv_le_self _ hb.1
  exact ⟨h3, by omega⟩
theorem ROk.mono {n d p r r' : Int} (h : ROk n d p) (h0 : r ≤ r') : longR n d p r' ≤ longR n d p r := by
  have ha := h.a
  have h1 : p * n * (1000 - r') ≤ p * n * (1000 - r) := Int.mul_le_mul_of_nonneg_left (by omega) ha.1
  exact Int.ediv_le_ediv (by have := h.d0; omega) h1

theorem long_ok (n d p r : Int) (h : ROk n d p) (h0 : 0 ≤ r) (h1 : r ≤ 1000) : lim F 77 [.agg [iv n, iv d], iv p, iv r] = some (iv (longR n d p r), []) := by
  have ha := h.a
  have hb := h.b h0 h1
  have hl := h.l h0 h1
  have e : Int.tdiv (p * n * (1000 - r)) (d * 1000) = longR n d p r := Int.tdiv_eq_ediv_of_nonneg hb.1
  obtain ⟨n0, n1, d0, d1, p0, p1⟩ := h
  refine lim_by (fn := a77) (k := 3) (res := [.tmp 6]) rfl rfl rfl (by simp -implicitDefEqProofs (maxSteps := 2000000) (disch := first | exact tt_rfl rfl | omega | (simp only [go_sem] <;> omega) | fail) only [go_sem]) ?_
  simp -implicitDefEqProofs (maxSteps := 2000000) (disch := first | exact tt_rfl rfl | omega | (simp only [go_sem] <;> omega) | fail) only [go_sem]
  repeat (first | apply Wp.seqA | apply Wp.skipS | apply Wp.blockS | ((first | apply Wp.regS | apply Wp.condV | apply Wp.reg | apply Wp.condW | apply fin_ret); simp -implicitDefEqProofs (maxSteps := 2000000) (disch := first | exact tt_rfl rfl | omega | (simp only [go_sem] <;> omega) | fail) only [go_sem, e, show d * 1000 ≠ 0 by omega] <;> try with_reducible rfl) | apply Wp.block | apply Wp.exitS | apply Wp.retS | apply Wp.exit | apply Wp.ret | apply Wp.skip)

theorem note11_ok (n d p lo hi m r : Int) (h : ROk n d p) (h0 : 0 ≤ r) (h1 : r ≤ 1000) : lim F 113 [iv r, .iptr (.agg [iv n, iv d]) 0, .iptr (.agg [iv p, iv lo, iv hi]) 0, .iptr (.agg [iv m]) 0] = some (.bool (decide (longR n d p r ≤ m)), []) := by
  have hk := long_ok n d p r h h0 h1
  by_cases hm : longR n d p r ≤ m
  all_goals
    refine lim_by (fn := a113) (k := 4) (res := [.tmp 5]) rfl rfl rfl (by simp -implicitDefEqProofs (maxSteps := 2000000) (disch := first | exact tt_rfl rfl | omega | (simp only [go_sem] <;> omega) | fail) only [go_sem]) ?_
    simp -implicitDefEqProofs (maxSteps := 2000000) (disch := first | exact tt_rfl rfl | omega | (simp only [go_sem] <;> omega) | fail) only [go_sem]
    repeat (first | apply Wp.seqA | apply Wp.skipS | apply Wp.blockS | ((first | apply Wp.regS | apply Wp.condV | apply Wp.reg | apply Wp.condW | apply fin_ret); simp -implicitDefEqProofs (maxSteps := 2000000) (disch := first | exact tt_rfl rfl | omega | (simp only [go_sem] <;> omega) | fail) only [go_sem, hk, hm] <;> try with_reducible rfl) | apply Wp.block | apply Wp.exitS | apply Wp.retS | apply Wp.exit | apply Wp.ret | apply Wp.skip)

/-- the least relaxing with which a figure is at most so long; 201 if there is none up to 200 -/
def firstL (n d p m : Int) : Nat := firstP (fun r => decide (longR n d p r ≤ m)) 201
theorem firstL_le (n d p m : Int) : firstL n d p m ≤ 201 := firstP_le _ _
theorem firstL_iff {n d p : Int} (h : ROk n d p) (m : Int) (r : Nat) (hr : r ≤ 200) : firstL n d p m ≤ r ↔ longR n d p r ≤ m := by
  constructor
  · intro hf
    have h1 := firstP_yes (p := fun r : Nat => decide (longR n d p r ≤ m)) (N := 201) (show firstL n d p m < 201 by omega)
    rw [decide_eq_true_eq] at h1
    have h2 := h.mono (show ((firstL n d p m : Nat) : Int) ≤ r by omega)
    exact Int.le_trans h2 h1
  · intro hl
    rcases Nat.lt_or_ge r (firstL n d p m) with hlt | hge
    · have h1 := firstP_no (p := fun r : Nat => decide (longR n d p r ≤ m)) (N := 201) hlt
      rw [decide_eq_false_iff_not] at h1
      exact absurd hl h1
    · exact hge
theorem note1_ok (n d p lo hi m : Int) (h : ROk n d p) : lim F 112 [iv m, .iptr (.agg [iv n, iv d]) 0, .iptr (.agg [iv p, iv lo, iv hi]) 0] = some (iv (firstL n d p m), []) := by
  have hs := search3 (fun r => decide (longR n d p r ≤ m)) 201 113 (.agg [iv n, iv d]) (.agg [iv p, iv lo, iv hi]) (.agg [iv m]) (by omega)
    (fun i j hij hj hi => by
      simp only [decide_eq_true_eq] at hi ⊢
      exact Int.le_trans (h.mono (by omega)) hi)
    (fun i hi' => note11_ok n d p lo hi m i h (by omega) (by omega))
  rw [show ((201 : Nat) : Int) = 201 from rfl] at hs
  change _ = some (iv (firstL n d p m), []) at hs
  generalize firstL n d p m = k at *
  refine lim_by (fn := a112) (k := 3) (res := [.tmp 4]) rfl rfl rfl (by simp -implicitDefEqProofs (maxSteps := 2000000) (disch := first | exact tt_rfl rfl | omega | (simp only [go_sem] <;> omega) | fail) only [go_sem]) ?_
  simp -implicitDefEqProofs (maxSteps := 2000000) (disch := first | exact tt_rfl rfl | omega | (simp only [go_sem] <;> omega) | fail) only [go_sem]
  repeat (first | apply Wp.seqA | apply Wp.skipS | apply Wp.blockS | ((first | apply Wp.regS | apply Wp.condV | apply Wp.reg | apply Wp.condW | apply fin_ret); simp -implicitDefEqProofs (maxSteps := 2000000) (disch := first | exact tt_rfl rfl | omega | (simp only [go_sem] <;> omega) | fail) only [go_sem, hs] <;> try with_reducible rfl) | apply Wp.block | apply Wp.exitS | apply Wp.retS | apply Wp.exit | apply Wp.ret | apply Wp.skip)

structure NoteA where
  p : Int
  lo : Int
  hi : Int
def NoteA.av (x : NoteA) : AV := .agg [iv x.p, iv x.lo, iv x.hi]
abbrev NoteA.Ok (x : NoteA) : Prop := (1 ≤ x.p ∧ x.p ≤ 100000) ∧ SpanOk x.lo x.hi 0 10000000000
@[go_sem] theorem noteA_plain (l : List NoteA) : (l.map NoteA.av).all AV.plain = true := by
  simp [NoteA.av, AV.plain, AV.plain1]

def noteStep (n d : Int) (s : Int × Int) (x : NoteA) : Int × Int := (max s.1 (firstL n d x.p x.hi), min s.2 (firstL n d x.p (x.lo - 1) - 1))

theorem note_ok (n d : Int) (s : Int × Int) (x : NoteA) (h : ROk n d x.p) (hx : x.Ok) (h1 : -1000 ≤ s.1 ∧ s.1 ≤ 1000) (h2 : -1000 ≤ s.2 ∧ s.2 ≤ 1000) :
    lim F 81 [.agg [iv n, iv d], .agg [iv s.1, iv s.2], .agg [iv x.p, iv x.lo, iv x.hi]] = some (.agg [iv (noteStep n d s x).1, iv (noteStep n d s x).2], []) := by
  have k1 := note1_ok n d x.p x.lo x.hi x.hi h
  have k2 := note1_ok n d x.p x.lo x.hi (x.lo - 1) h
  have l1 := firstL_le n d x.p x.hi
  have l2 := firstL_le n d x.p (x.lo - 1)
  unfold noteStep
  generalize firstL n d x.p x.hi = a at *
  generalize firstL n d x.p (x.lo - 1) = b at *
  obtain ⟨_, hx1, hx2, hx3⟩ := hx
  refine lim_by (fn := a81) (k := 3) (res := [.cell 6 2 true]) rfl rfl rfl (by simp -implicitDefEqProofs (maxSteps := 2000000) (disch := first | exact tt_rfl rfl | omega | (simp only [go_sem] <;> omega) | fail) only [go_sem]) ?_
  simp -implicitDefEqProofs (maxSteps := 2000000) (disch := first | exact tt_rfl rfl | omega | (simp only [go_sem] <;> omega) | fail) only [go_sem]
  repeat (first | apply Wp.seqA | apply Wp.skipS | apply Wp.blockS | ((first | apply Wp.regS | apply Wp.condV | apply Wp.reg | apply Wp.condW | apply fin_ret); simp -implicitDefEqProofs (maxSteps := 2000000) (disch := first | exact tt_rfl rfl | omega | (simp only [go_sem] <;> omega) | fail) only [go_sem, k1, k2] <;> try with_reducible rfl) | apply Wp.block | apply Wp.exitS | apply Wp.retS | apply Wp.exit | apply Wp.ret | apply Wp.skip)

theorem isRelax_ok (a b : Int) : lim F 76 [.agg [iv a, iv b]] = some (.bool (decide (SpanOk a b 0 200)), []) := by
  have h := isSpan_ok a b 0 200
  refine lim_by (fn := a76) (k := 1) (res := [.tmp 2]) rfl rfl rfl (by simp -implicitDefEqProofs (maxSteps := 2000000) (disch := first | exact tt_rfl rfl | omega | (simp only [go_sem] <;> omega) | fail) only [go_sem]) ?_
  simp -implicitDefEqProofs (maxSteps := 2000000) (disch := first | exact tt_rfl rfl | omega | (simp only [go_sem] <;> omega) | fail) only [go_sem]
  repeat (first | apply Wp.seqA | apply Wp.skipS | apply Wp.blockS | ((first | apply Wp.regS | apply Wp.condV | apply Wp.reg | apply Wp.condW | apply fin_ret); simp -implicitDefEqProofs (maxSteps := 2000000) (disch := first | exact tt_rfl rfl | omega | (simp only [go_sem] <;> omega) | fail) only [go_sem, h] <;> try with_reducible rfl) | apply Wp.block | apply Wp.exitS | apply Wp.retS | apply Wp.exit | apply Wp.ret | apply Wp.skip)

theorem tkR {t : TakeA} (h : checkT t = 0) {p : Int} (h0 : 0 ≤ p) (h1 : p ≤ 100000) : ROk (nT t) (dT t) p := by
  have nb := nT_bound h
  exact ⟨nb.1.1, nb.1.2, nb.2.1, nb.2.2, h0, h1⟩

/-- how long a figure is -/
def longT (t : TakeA) (p r : Int) : Int := longR (nT t) (dT t) p r
def figE (t : TakeA) (a b p : Int) : Int := if checkT t = 0 then if SpanOk a b 0 200 then if 1 ≤ p ∧ p ≤ 100000 then 0 else 3 else 2 else checkT t
theorem Figure_ok (t : TakeA) (a b p : Int) : lim F 28 [t.av, .agg [iv a, iv b], iv p] = some (.tuple [.agg [iv (if figE t a b p = 0 then longT t p b else 0), iv (if figE t a b p = 0 then longT t p a else 0)], iv (figE t a b p)], []) := by
  have hc := Check_ok t
  unfold figE
  by_cases h : checkT t = 0
  · rw [if_pos h]
    rw [h] at hc
    have hr := isRelax_ok a b
    by_cases hs : SpanOk a b 0 200
    · rw [if_pos hs]
      rw [decide_eq_true hs] at hr
      have hw := within_ok 1 100000 [p] (by simp)
      simp only [List.map_cons, List.map_nil, List.all_cons, List.all_nil, Bool.and_true] at hw
      by_cases hp : 1 ≤ p ∧ p ≤ 100000
      · rw [if_pos hp, if_pos rfl, if_pos rfl]
        have ht := taken_ok t h
        have g1 := long_ok (nT t) (dT t) p b (tkR h (by omega) (by omega)) (by omega) (by omega)
        have g2 := long_ok (nT t) (dT t) p a (tkR h (by omega) (by omega)) (by omega) (by omega)
        change _ = some (iv (longT t p b), []) at g1
        change _ = some (iv (longT t p a), []) at g2
        unfold TakeA.av at hc ht ⊢
        unfold takeV at ht
        refine lim_by (fn := a28) (k := 3) (res := [.cell 6 2 true, .tmp 7]) rfl rfl rfl (by simp -implicitDefEqProofs (maxSteps := 2000000) (disch := first | exact tt_rfl rfl | omega | (simp only [go_sem] <;> omega) | fail) only [go_sem]) ?_
        simp -implicitDefEqProofs (maxSteps := 2000000) (disch := first | exact tt_rfl rfl | omega | (simp only [go_sem] <;> omega) | fail) only [go_sem]
        repeat (first | apply Wp.seqA | apply Wp.skipS | apply Wp.blockS | ((first | apply Wp.regS | apply Wp.condV | apply Wp.reg | apply Wp.condW | apply fin_ret); simp -implicitDefEqProofs (maxSteps := 2000000) (disch := first | exact tt_rfl rfl | omega | (simp only [go_sem] <;> omega) | fail) only [go_sem, hc, hr, hw, hp, ht, g1, g2] <;> try with_reducible rfl) | apply Wp.block | apply Wp.exitS | apply Wp.retS | apply Wp.exit | apply Wp.ret | apply Wp.skip)
      · rw [if_neg hp, if_neg (by omega), if_neg (by omega)]
        unfold TakeA.av at hc ⊢
        refine lim_by (fn := a28) (k := 3) (res := [.cell 6 2 true, .tmp 7]) rfl rfl rfl (by simp -implicitDefEqProofs (maxSteps := 2000000) (disch := first | exact tt_rfl rfl | omega | (simp only [go_sem] <;> omega) | fail) only [go_sem]) ?_
        simp -implicitDefEqProofs (maxSteps := 2000000) (disch := first | exact tt_rfl rfl | omega | (simp only [go_sem] <;> omega) | fail) only [go_sem]
        repeat (first | apply Wp.seqA | apply Wp.skipS | apply Wp.blockS | ((first | apply Wp.regS | apply Wp.condV | apply Wp.reg | apply Wp.condW | apply fin_ret); simp -implicitDefEqProofs (maxSteps := 2000000) (disch := first | exact tt_rfl rfl | omega | (simp only [go_sem] <;> omega) | fail) only [go_sem, hc, hr, hw, hp] <;> try with_reducible rfl) | apply Wp.block | apply Wp.exitS | apply Wp.retS | apply Wp.exit | apply Wp.ret | apply Wp.skip)
    · rw [if_neg hs, if_neg (by omega), if_neg (by omega)]
      rw [decide_eq_false hs] at hr
      unfold TakeA.av at hc ⊢
      refine lim_by (fn := a28) (k := 3) (res := [.cell 6 2 true, .tmp 7]) rfl rfl rfl (by simp -implicitDefEqProofs (maxSteps := 2000000) (disch := first | exact tt_rfl rfl | omega | (simp only [go_sem] <;> omega) | fail) only [go_sem]) ?_
      simp -implicitDefEqProofs (maxSteps := 2000000) (disch := first | exact tt_rfl rfl | omega | (simp only [go_sem] <;> omega) | fail) only [go_sem]
      repeat (first | apply Wp.seqA | apply Wp.skipS | apply Wp.blockS | ((first | apply Wp.regS | apply Wp.condV | apply Wp.reg | apply Wp.condW | apply fin_ret); simp -implicitDefEqProofs (maxSteps := 2000000) (disch := first | exact tt_rfl rfl | omega | (simp only [go_sem] <;> omega) | fail) only [go_sem, hc, hr] <;> try with_reducible rfl) | apply Wp.block | apply Wp.exitS | apply Wp.retS | apply Wp.exit | apply Wp.ret | apply Wp.skip)
  · rw [if_neg h, if_neg h, if_neg h]
    generalize checkT t = c at hc h
    unfold TakeA.av at hc ⊢
    refine lim_by (fn := a28) (k := 3) (res := [.cell 6 2 true, .tmp 7]) rfl rfl rfl (by simp -implicitDefEqProofs (maxSteps := 2000000) (disch := first | exact tt_rfl rfl | omega | (simp only [go_sem] <;> omega) | fail) only [go_sem]) ?_
    simp -implicitDefEqProofs (maxSteps := 2000000) (disch := first | exact tt_rfl rfl | omega | (simp only [go_sem] <;> omega) | fail) only [go_sem]
    repeat (first | apply Wp.seqA | apply Wp.skipS | apply Wp.blockS | ((first | apply Wp.regS | apply Wp.condV | apply Wp.reg | apply Wp.condW | apply fin_ret); simp -implicitDefEqProofs (maxSteps := 2000000) (disch := first | exact tt_rfl rfl | omega | (simp only [go_sem] <;> omega) | fail) only [go_sem, hc, h] <;> try with_reducible rfl) | apply Wp.block | apply Wp.exitS | apply Wp.retS | apply Wp.exit | apply Wp.ret | apply Wp.skip)

theorem relaxed1_ok (x : NoteA) : lim F 78 [.agg [iv x.p, iv x.lo, iv x.hi]] = some (.bool (decide (¬ x.Ok)), []) := by
  have hw := within_ok 1 100000 [x.p] (by simp)
  simp only [List.map_cons, List.map_nil, List.all_cons, List.all_nil, Bool.and_true] at hw
  have hs := isSpan_ok x.lo x.hi 0 10000000000
  by_cases h1 : 1 ≤ x.p ∧ x.p ≤ 100000
  · by_cases h2 : SpanOk x.lo x.hi 0 10000000000
    · rw [decide_eq_true h2] at hs
      refine lim_by (fn := a78) (k := 1) (res := [.tmp 2]) rfl rfl rfl (by simp -implicitDefEqProofs (maxSteps := 2000000) (disch := first | exact tt_rfl rfl | omega | (simp only [go_sem] <;> omega) | fail) only [go_sem]) ?_
      simp -implicitDefEqProofs (maxSteps := 2000000) (disch := first | exact tt_rfl rfl | omega | (simp only [go_sem] <;> omega) | fail) only [go_sem]
      repeat (first | apply Wp.seqA | apply Wp.skipS | apply Wp.blockS | ((first | apply Wp.regS | apply Wp.condV | apply Wp.reg | apply Wp.condW | apply fin_ret); simp -implicitDefEqProofs (maxSteps := 2000000) (disch := first | exact tt_rfl rfl | omega | (simp only [go_sem] <;> omega) | fail) only [go_sem, hw, hs, h1] <;> try with_reducible rfl) | apply Wp.block | apply Wp.exitS | apply Wp.retS | apply Wp.exit | apply Wp.ret | apply Wp.skip)
      rw [decide_eq_false]
      exact fun h => h ⟨h1, h2⟩
    · rw [decide_eq_false h2] at hs
      refine lim_by (fn := a78) (k := 1) (res := [.tmp 2]) rfl rfl rfl (by simp -implicitDefEqProofs (maxSteps := 2000000) (disch := first | exact tt_rfl rfl | omega | (simp only [go_sem] <;> omega) | fail) only [go_sem]) ?_
      simp -implicitDefEqProofs (maxSteps := 2000000) (disch := first | exact tt_rfl rfl | omega | (simp only [go_sem] <;> omega) | fail) only [go_sem]
      repeat (first | apply Wp.seqA | apply Wp.skipS | apply Wp.blockS | ((first | apply Wp.regS | apply Wp.condV | apply Wp.reg | apply Wp.condW | apply fin_ret); simp -implicitDefEqProofs (maxSteps := 2000000) (disch := first | exact tt_rfl rfl | omega | (simp only [go_sem] <;> omega) | fail) only [go_sem, hw, hs, h1] <;> try with_reducible rfl) | apply Wp.block | apply Wp.exitS | apply Wp.retS | apply Wp.exit | apply Wp.ret | apply Wp.skip)
      rw [decide_eq_true]
      exact fun h => h2 h.2
  · refine lim_by (fn := a78) (k := 1) (res := [.tmp 2]) rfl rfl rfl (by simp -implicitDefEqProofs (maxSteps := 2000000) (disch := first | exact tt_rfl rfl | omega | (simp only [go_sem] <;> omega) | fail) only [go_sem]) ?_
    simp -implicitDefEqProofs (maxSteps := 2000000) (disch := first | exact tt_rfl rfl | omega | (simp only [go_sem] <;> omega) | fail) only [go_sem]
    repeat (first | apply Wp.seqA | apply Wp.skipS | apply Wp.blockS | ((first | apply Wp.regS | apply Wp.condV | apply Wp.reg | apply Wp.condW | apply fin_ret); simp -implicitDefEqProofs (maxSteps := 2000000) (disch := first | exact tt_rfl rfl | omega | (simp only [go_sem] <;> omega) | fail) only [go_sem, hw, h1] <;> try with_reducible rfl) | apply Wp.block | apply Wp.exitS | apply Wp.retS | apply Wp.exit | apply Wp.ret | apply Wp.skip)
    rw [decide_eq_true]
    exact fun h => h1 h.1

theorem index_notes (l : List NoteA) (p : NoteA → Bool) (f : Nat) (hl : l.length < 1000000000) (hp : ∀ n ∈ l, lim F f [.agg [iv n.p, iv n.lo, iv n.hi]] = some (.bool (p n), [])) :
    lim F 111 [.list 3 (l.map NoteA.av), .func f []] = some (iv (idxF p l), []) := by
  refine lim_by (fn := a111) (k := 2) (res := [.tmp 4]) rfl rfl rfl (by simp -implicitDefEqProofs (maxSteps := 2000000) (disch := first | exact tt_rfl rfl | omega | (simp only [go_sem] <;> omega) | fail) only [go_sem]) ?_
  simp -implicitDefEqProofs (maxSteps := 2000000) (disch := first | exact tt_rfl rfl | omega | (simp only [go_sem] <;> omega) | fail) only [go_sem]
  repeat (first | apply Wp.seqA | apply Wp.skipS | apply Wp.blockS | ((first | apply Wp.regS | apply Wp.condV | apply Wp.reg | apply Wp.condW | apply fin_ret); simp -implicitDefEqProofs (maxSteps := 2000000) (disch := first | exact tt_rfl rfl | omega | (simp only [go_sem] <;> omega) | fail) only [go_sem] <;> try with_reducible rfl) | apply Wp.block | apply Wp.exitS | apply Wp.retS | apply Wp.exit | apply Wp.ret | apply Wp.skip)
  apply Wp.loopF l.length (fun i => ⟨[(0, .list 3 (l.map NoteA.av)), (1, .func f []), (7, iv l.length), (8, iv i)], [], [], 10000000⟩) (fun i => ∀ j (hj : j < l.length), j < i → p l[j] = false)
  · simp -implicitDefEqProofs (maxSteps := 2000000) (disch := first | exact tt_rfl rfl | omega | (simp only [go_sem] <;> omega) | fail) only [go_sem, norm_eq, Ok.some]
    rfl
  · intro j hj h; omega
  intro i hi hn
  by_cases h : i < l.length
  · have hc := hp l[i] (List.getElem_mem h)
    cases hb : p l[i] with
    | true =>
      rw [hb] at hc
      repeat (first | apply Wp.seqA | apply Wp.skipS | apply Wp.blockS | ((first | apply Wp.regS | apply Wp.condV | apply Wp.reg | apply Wp.condW | apply fin_ret); simp -implicitDefEqProofs (maxSteps := 2000000) (disch := first | exact tt_rfl rfl | omega | (simp only [go_sem] <;> omega) | fail) only [go_sem, h, List.getElem?_map, List.getElem?_eq_getElem h, Option.map_some, hc, Int.ofNat_lt, NoteA.av.eq_1] <;> try with_reducible rfl) | apply Wp.block | apply Wp.exitS | apply Wp.retS | apply Wp.exit | apply Wp.ret | apply Wp.skip)
      rw [idxF_at h hb hn]
    | false =>
      rw [hb] at hc
      repeat (first | apply Wp.seqA | apply Wp.skipS | apply Wp.blockS | ((first | apply Wp.regS | apply Wp.condV | apply Wp.reg | apply Wp.condW | apply fin_ret); simp -implicitDefEqProofs (maxSteps := 2000000) (disch := first | exact tt_rfl rfl | omega | (simp only [go_sem] <;> omega) | fail) only [go_sem, h, List.getElem?_map, List.getElem?_eq_getElem h, Option.map_some, hc, Int.ofNat_lt, NoteA.av.eq_1] <;> try with_reducible rfl) | apply Wp.block | apply Wp.exitS | apply Wp.retS | apply Wp.exit | apply Wp.ret | apply Wp.skip)
      apply round_next
      · simp -implicitDefEqProofs (maxSteps := 2000000) (disch := first | exact tt_rfl rfl | omega | (simp only [go_sem] <;> omega) | fail) only [go_sem, norm_eq, Ok.some]; with_reducible rfl
      refine ⟨h, by simp, fun j hj hji => ?_⟩
      by_cases e : j = i
      · subst e; exact hb
      · exact hn j hj (by omega)
  · repeat (first | apply Wp.seqA | apply Wp.skipS | apply Wp.blockS | ((first | apply Wp.regS | apply Wp.condV | apply Wp.reg | apply Wp.condW | apply fin_ret); simp -implicitDefEqProofs (maxSteps := 2000000) (disch := first | exact tt_rfl rfl | omega | (simp only [go_sem] <;> omega) | fail) only [go_sem, h, Int.ofNat_lt] <;> try with_reducible rfl) | apply Wp.block | apply Wp.exitS | apply Wp.retS | apply Wp.exit | apply Wp.ret | apply Wp.skip)
    rw [idxF_no fun j hj => hn j hj (by omega)]

theorem contains_notes (l : List NoteA) (p : NoteA → Bool) (f : Nat) (hl : l.length < 1000000000) (hp : ∀ n ∈ l, lim F f [.agg [iv n.p, iv n.lo, iv n.hi]] = some (.bool (p n), [])) :
    lim F 80 [.list 3 (l.map NoteA.av), .func f []] = some (.bool (l.any p), []) := by
  have h := index_notes l p f hl hp
  refine lim_by (fn := a80) (k := 2) (res := [.tmp 4]) rfl rfl rfl (by simp -implicitDefEqProofs (maxSteps := 2000000) (disch := first | exact tt_rfl rfl | omega | (simp only [go_sem] <;> omega) | fail) only [go_sem]) ?_
  simp -implicitDefEqProofs (maxSteps := 2000000) (disch := first | exact tt_rfl rfl | omega | (simp only [go_sem] <;> omega) | fail) only [go_sem]
  repeat (first | apply Wp.seqA | apply Wp.skipS | apply Wp.blockS | ((first | apply Wp.regS | apply Wp.condV | apply Wp.reg | apply Wp.condW | apply fin_ret); simp -implicitDefEqProofs (maxSteps := 2000000) (disch := first | exact tt_rfl rfl | omega | (simp only [go_sem] <;> omega) | fail) only [go_sem, h, idxF_ge] <;> try with_reducible rfl) | apply Wp.block | apply Wp.exitS | apply Wp.retS | apply Wp.exit | apply Wp.ret | apply Wp.skip)

/-! ### What is left of a span by notes -/

def spanAt (t : TakeA) (s : Int × Int) (l : List NoteA) (i : Nat) : Int × Int := (l.take i).foldl (noteStep (nT t) (dT t)) s
theorem spanAt_succ {t : TakeA} {s : Int × Int} {l : List NoteA} {i : Nat} (h : i < l.length) : spanAt t s l (i + 1) = noteStep (nT t) (dT t) (spanAt t s l i) l[i] := by
  unfold spanAt; rw [List.take_succ_eq_append_getElem h, List.foldl_append]; rfl
theorem spanAt_in {t : TakeA} {s : Int × Int} {l : List NoteA} : ∀ {i : Nat}, (spanAt t s l 0).1 ≤ (spanAt t s l i).1 ∧ (spanAt t s l i).1 ≤ max s.1 201 ∧ (spanAt t s l i).2 ≤ s.2 ∧ min s.2 (-1) ≤ (spanAt t s l i).2
  | 0 => by simp [spanAt]; omega
  | i + 1 => by
    have ih := spanAt_in (t := t) (s := s) (l := l) (i := i)
    by_cases h : i < l.length
    · rw [spanAt_succ h]
      have l1 := firstL_le (nT t) (dT t) l[i].p l[i].hi
      have l2 := firstL_le (nT t) (dT t) l[i].p (l[i].lo - 1)
      unfold noteStep
      simp only
      omega
    · have e : spanAt t s l (i + 1) = spanAt t s l i := by
        unfold spanAt; rw [List.take_of_length_le (by omega), List.take_of_length_le (by omega)]
      rw [e]; exact ih
/-- a note is true of a cloth that relaxed by so much -/
abbrev noteTrue (t : TakeA) (x : NoteA) (r : Int) : Prop := x.lo ≤ longT t x.p r ∧ longT t x.p r ≤ x.hi
theorem spanAt_iff {t : TakeA} (hc : checkT t = 0) {s : Int × Int} {l : List NoteA} (hl : ∀ x ∈ l, x.Ok) (hs : SpanOk s.1 s.2 0 200) (r : Nat) (hr : r ≤ 200) :
    ∀ {i : Nat}, i ≤ l.length → (((spanAt t s l i).1 ≤ r ∧ r ≤ (spanAt t s l i).2) ↔ ((s.1 ≤ r ∧ r ≤ s.2) ∧ ∀ x ∈ l.take i, noteTrue t x r))
  | 0, _ => by simp [spanAt]
  | i + 1, hi => by
    have ih := spanAt_iff hc hl hs r hr (i := i) (by omega)
    have h : i < l.length := by omega
    rw [spanAt_succ h, List.take_succ_eq_append_getElem h]
    have hx := hl l[i] (List.getElem_mem h)
    have hR := tkR hc (p := l[i].p) (by omega) (by omega)
    have f1 := firstL_iff hR l[i].hi r hr
    have f2 := firstL_iff hR (l[i].lo - 1) r hr
    have eT : noteTrue t l[i] r ↔ firstL (nT t) (dT t) l[i].p l[i].hi ≤ r ∧ ¬ firstL (nT t) (dT t) l[i].p (l[i].lo - 1) ≤ r := by
      rw [f1, f2]
      unfold noteTrue longT
      omega
    have e1 : ((noteStep (nT t) (dT t) (spanAt t s l i) l[i]).1 ≤ r ∧ r ≤ (noteStep (nT t) (dT t) (spanAt t s l i) l[i]).2) ↔ ((spanAt t s l i).1 ≤ r ∧ r ≤ (spanAt t s l i).2) ∧ noteTrue t l[i] r := by
      rw [eT]
      unfold noteStep
      simp only
      omega
    rw [e1, ih]
    constructor
    · rintro ⟨⟨h1, h2⟩, h3⟩
      refine ⟨h1, fun x hx => ?_⟩
      rcases List.mem_append.1 hx with h | h
      · exact h2 x h
      · rw [List.mem_singleton.1 h]; exact h3
    · rintro ⟨h1, h2⟩
      exact ⟨⟨h1, fun x hx => h2 x (List.mem_append_left _ hx)⟩, h2 _ (List.mem_append_right _ (List.mem_singleton.2 rfl))⟩

/-- where nothing is left first; the list's length if something is left to the end -/
def badAt (t : TakeA) (s : Int × Int) (l : List NoteA) : Nat := firstP (fun i => decide ((spanAt t s l (i + 1)).2 < (spanAt t s l (i + 1)).1)) l.length

def relE (t : TakeA) (s : Int × Int) (l : List NoteA) : Int :=
  if checkT t = 0 then if SpanOk s.1 s.2 0 200 then if 20 < l.length then 5 else if ∀ x ∈ l, x.Ok then if badAt t s l < l.length then 9 else 0 else 2 else 2 else checkT t
def relV (t : TakeA) (s : Int × Int) (l : List NoteA) : Int × Int := if relE t s l = 0 then spanAt t s l l.length else (0, 0)
def relAt (t : TakeA) (s : Int × Int) (l : List NoteA) : Int := if relE t s l = 9 then badAt t s l else 0
theorem checkT_vals (t : TakeA) : checkT t = 0 ∨ checkT t = 2 ∨ checkT t = 5 := by
  unfold checkT; repeat' split
  all_goals simp

theorem Relaxed_ok (t : TakeA) (s : Int × Int) (l : List NoteA) (hlen : l.length < 1000000) : lim F 29 [t.av, .agg [iv s.1, iv s.2], .list 3 (l.map NoteA.av)] = some (.tuple [.agg [iv (relV t s l).1, iv (relV t s l).2], iv (relAt t s l), iv (relE t s l)], []) := by
  have hc := Check_ok t
  by_cases h : checkT t = 0
  · rw [h] at hc
    have hr := isRelax_ok s.1 s.2
    by_cases hs : SpanOk s.1 s.2 0 200
    · rw [decide_eq_true hs] at hr
      by_cases h20 : 20 < l.length
      · have e : relE t s l = 5 := by unfold relE; rw [if_pos h, if_pos hs, if_pos h20]
        unfold relV relAt
        rw [e, if_neg (by omega), if_neg (by omega)]
        unfold TakeA.av at hc ⊢
        refine lim_by (fn := a29) (k := 3) (res := [.cell 6 2 true, .tmp 7, .tmp 8]) rfl rfl rfl (by simp -implicitDefEqProofs (maxSteps := 2000000) (disch := first | exact tt_rfl rfl | omega | (simp only [go_sem] <;> omega) | fail) only [go_sem]) ?_
        simp -implicitDefEqProofs (maxSteps := 2000000) (disch := first | exact tt_rfl rfl | omega | (simp only [go_sem] <;> omega) | fail) only [go_sem]
        repeat (first | apply Wp.seqA | apply Wp.skipS | apply Wp.blockS | ((first | apply Wp.regS | apply Wp.condV | apply Wp.reg | apply Wp.condW | apply fin_ret); simp -implicitDefEqProofs (maxSteps := 2000000) (disch := first | exact tt_rfl rfl | omega | (simp only [go_sem] <;> omega) | fail) only [go_sem, hc, hr, h20, show (20 : Int) < l.length by omega, gt_iff_lt] <;> try with_reducible rfl) | apply Wp.block | apply Wp.exitS | apply Wp.retS | apply Wp.exit | apply Wp.ret | apply Wp.skip)
      · have hn := contains_notes l (fun x => decide (¬ x.Ok)) 78 (by omega) fun x _ => relaxed1_ok x
        by_cases hx : ∀ x ∈ l, x.Ok
        · have ea : l.any (fun x => decide (¬ x.Ok)) = false := by
            rw [List.any_eq_false]
            intro x hm
            simp only [decide_eq_true_eq, Classical.not_not]
            exact hx x hm
          rw [ea] at hn
          have ht := taken_ok t h
          have eE : relE t s l = if badAt t s l < l.length then 9 else 0 := by unfold relE; rw [if_pos h, if_pos hs, if_neg h20, if_pos hx]
          unfold TakeA.av at hc ht ⊢
          unfold takeV at ht
          refine lim_by (fn := a29) (k := 3) (res := [.cell 6 2 true, .tmp 7, .tmp 8]) rfl rfl rfl (by simp -implicitDefEqProofs (maxSteps := 2000000) (disch := first | exact tt_rfl rfl | omega | (simp only [go_sem] <;> omega) | fail) only [go_sem]) ?_
          simp -implicitDefEqProofs (maxSteps := 2000000) (disch := first | exact tt_rfl rfl | omega | (simp only [go_sem] <;> omega) | fail) only [go_sem]
          repeat (first | apply Wp.seqA | apply Wp.skipS | apply Wp.blockS | ((first | apply Wp.regS | apply Wp.condV | apply Wp.reg | apply Wp.condW | apply fin_ret); simp -implicitDefEqProofs (maxSteps := 2000000) (disch := first | exact tt_rfl rfl | omega | (simp only [go_sem] <;> omega) | fail) only [go_sem, hc, hr, hn, ht, h20, show ¬ (20 : Int) < l.length by omega, gt_iff_lt] <;> try with_reducible rfl) | apply Wp.block | apply Wp.exitS | apply Wp.retS | apply Wp.exit | apply Wp.ret | apply Wp.skip)
          apply Wp.loopF l.length (fun i => ⟨[(6, .ptr 384 0 0), (10, .ptr 640 0 0), (11, .ptr 704 0 0), (39, .list 3 (l.map NoteA.av)), (40, iv l.length), (41, iv i)], [(384, .box [iv 0, iv 0]), (640, .box [iv (nT t), iv (dT t)]), (704, .box [iv (spanAt t s l i).1, iv (spanAt t s l i).2])], [], 10000000⟩)
            (fun i => ∀ j, j < i → decide ((spanAt t s l (j + 1)).2 < (spanAt t s l (j + 1)).1) = false)
          · simp -implicitDefEqProofs (maxSteps := 2000000) (disch := first | exact tt_rfl rfl | omega | (simp only [go_sem] <;> omega) | fail) only [go_sem, norm_eq, Ok.some]
            rfl
          · intro j h; omega
          intro i hi hno
          by_cases hlt : i < l.length
          · have hxi := hx l[i] (List.getElem_mem hlt)
            have sb := spanAt_in (t := t) (s := s) (l := l) (i := i)
            have s0 : spanAt t s l 0 = s := rfl
            rw [s0] at sb
            have hk := note_ok (nT t) (dT t) (spanAt t s l i) l[i] (tkR h (by omega) (by omega)) hxi (by omega) (by omega)
            rw [← spanAt_succ hlt] at hk
            by_cases hb : (spanAt t s l (i + 1)).2 < (spanAt t s l (i + 1)).1
            · have eb : badAt t s l = i := firstP_eq (by omega) hno fun _ => decide_eq_true hb
              unfold relV relAt
              rw [eE, eb, if_pos hlt, if_neg (by omega), if_pos rfl]
              generalize spanAt t s l (i + 1) = sn at hk hb
              generalize spanAt t s l i = so at hk
              repeat (first | apply Wp.seqA | apply Wp.skipS | apply Wp.blockS | ((first | apply Wp.regS | apply Wp.condV | apply Wp.reg | apply Wp.condW | apply fin_ret); simp -implicitDefEqProofs (maxSteps := 2000000) (disch := first | exact tt_rfl rfl | omega | (simp only [go_sem] <;> omega) | fail) only [go_sem, hlt, Int.ofNat_lt, List.getElem?_map, List.getElem?_eq_getElem hlt, Option.map_some, NoteA.av.eq_1, hk, hb, gt_iff_lt] <;> try with_reducible rfl) | apply Wp.block | apply Wp.exitS | apply Wp.retS | apply Wp.exit | apply Wp.ret | apply Wp.skip)
            · generalize hsn : spanAt t s l (i + 1) = sn at hk hb
              generalize spanAt t s l i = so at hk
              repeat (first | apply Wp.seqA | apply Wp.skipS | apply Wp.blockS | ((first | apply Wp.regS | apply Wp.condV | apply Wp.reg | apply Wp.condW | apply fin_ret); simp -implicitDefEqProofs (maxSteps := 2000000) (disch := first | exact tt_rfl rfl | omega | (simp only [go_sem] <;> omega) | fail) only [go_sem, hlt, Int.ofNat_lt, List.getElem?_map, List.getElem?_eq_getElem hlt, Option.map_some, NoteA.av.eq_1, hk, hb, gt_iff_lt] <;> try with_reducible rfl) | apply Wp.block | apply Wp.exitS | apply Wp.retS | apply Wp.exit | apply Wp.ret | apply Wp.skip)
              apply round_next
              · simp -implicitDefEqProofs (maxSteps := 2000000) (disch := first | exact tt_rfl rfl | omega | (simp only [go_sem] <;> omega) | fail) only [go_sem, norm_eq, Ok.some]; with_reducible rfl
              refine ⟨hlt, by simp, fun j hj => ?_⟩
              by_cases ej : j = i
              · subst ej; rw [hsn]; exact decide_eq_false hb
              · exact hno j (by omega)
          · obtain rfl : i = l.length := by omega
            have eb : badAt t s l = l.length := firstP_eq (by omega) hno fun hl => by omega
            unfold relV relAt
            rw [eE, eb, if_neg hlt, if_pos rfl, if_neg (by omega)]
            generalize spanAt t s l l.length = so
            repeat (first | apply Wp.seqA | apply Wp.skipS | apply Wp.blockS | ((first | apply Wp.regS | apply Wp.condV | apply Wp.reg | apply Wp.condW | apply fin_ret); simp -implicitDefEqProofs (maxSteps := 2000000) (disch := first | exact tt_rfl rfl | omega | (simp only [go_sem] <;> omega) | fail) only [go_sem, Int.lt_irrefl] <;> try with_reducible rfl) | apply Wp.block | apply Wp.exitS | apply Wp.retS | apply Wp.exit | apply Wp.ret | apply Wp.skip)
        · have ea : l.any (fun x => decide (¬ x.Ok)) = true := by
            rw [List.any_eq_true]
            refine Classical.byContradiction fun hne => hx fun x hm => Classical.byContradiction fun hno => hne ⟨x, hm, by simp only [decide_eq_true_eq]; exact hno⟩
          rw [ea] at hn
          have e : relE t s l = 2 := by unfold relE; rw [if_pos h, if_pos hs, if_neg h20, if_neg hx]
          unfold relV relAt
          rw [e, if_neg (by omega), if_neg (by omega)]
          unfold TakeA.av at hc ⊢
          refine lim_by (fn := a29) (k := 3) (res := [.cell 6 2 true, .tmp 7, .tmp 8]) rfl rfl rfl (by simp -implicitDefEqProofs (maxSteps := 2000000) (disch := first | exact tt_rfl rfl | omega | (simp only [go_sem] <;> omega) | fail) only [go_sem]) ?_
          simp -implicitDefEqProofs (maxSteps := 2000000) (disch := first | exact tt_rfl rfl | omega | (simp only [go_sem] <;> omega) | fail) only [go_sem]
          repeat (first | apply Wp.seqA | apply Wp.skipS | apply Wp.blockS | ((first | apply Wp.regS | apply Wp.condV | apply Wp.reg | apply Wp.condW | apply fin_ret); simp -implicitDefEqProofs (maxSteps := 2000000) (disch := first | exact tt_rfl rfl | omega | (simp only [go_sem] <;> omega) | fail) only [go_sem, hc, hr, hn, h20, show ¬ (20 : Int) < l.length by omega, gt_iff_lt] <;> try with_reducible rfl) | apply Wp.block | apply Wp.exitS | apply Wp.retS | apply Wp.exit | apply Wp.ret | apply Wp.skip)
    · rw [decide_eq_false hs] at hr
      have e : relE t s l = 2 := by unfold relE; rw [if_pos h, if_neg hs]
      unfold relV relAt
      rw [e, if_neg (by omega), if_neg (by omega)]
      unfold TakeA.av at hc ⊢
      refine lim_by (fn := a29) (k := 3) (res := [.cell 6 2 true, .tmp 7, .tmp 8]) rfl rfl rfl (by simp -implicitDefEqProofs (maxSteps := 2000000) (disch := first | exact tt_rfl rfl | omega | (simp only [go_sem] <;> omega) | fail) only [go_sem]) ?_
      simp -implicitDefEqProofs (maxSteps := 2000000) (disch := first | exact tt_rfl rfl | omega | (simp only [go_sem] <;> omega) | fail) only [go_sem]
      repeat (first | apply Wp.seqA | apply Wp.skipS | apply Wp.blockS | ((first | apply Wp.regS | apply Wp.condV | apply Wp.reg | apply Wp.condW | apply fin_ret); simp -implicitDefEqProofs (maxSteps := 2000000) (disch := first | exact tt_rfl rfl | omega | (simp only [go_sem] <;> omega) | fail) only [go_sem, hc, hr] <;> try with_reducible rfl) | apply Wp.block | apply Wp.exitS | apply Wp.retS | apply Wp.exit | apply Wp.ret | apply Wp.skip)
  · have e : relE t s l = checkT t := by unfold relE; rw [if_neg h]
    unfold relV relAt
    rcases (checkT_vals t).resolve_left h with h2 | h2
    all_goals
      rw [e, h2, if_neg (by omega), if_neg (by omega)]
      rw [h2] at hc
      unfold TakeA.av at hc ⊢
      refine lim_by (fn := a29) (k := 3) (res := [.cell 6 2 true, .tmp 7, .tmp 8]) rfl rfl rfl (by simp -implicitDefEqProofs (maxSteps := 2000000) (disch := first | exact tt_rfl rfl | omega | (simp only [go_sem] <;> omega) | fail) only [go_sem]) ?_
      simp -implicitDefEqProofs (maxSteps := 2000000) (disch := first | exact tt_rfl rfl | omega | (simp only [go_sem] <;> omega) | fail) only [go_sem]
      repeat (first | apply Wp.seqA | apply Wp.skipS | apply Wp.blockS | ((first | apply Wp.regS | apply Wp.condV | apply Wp.reg | apply Wp.condW | apply fin_ret); simp -implicitDefEqProofs (maxSteps := 2000000) (disch := first | exact tt_rfl rfl | omega | (simp only [go_sem] <;> omega) | fail) only [go_sem, hc] <;> try with_reducible rfl) | apply Wp.block | apply Wp.exitS | apply Wp.retS | apply Wp.exit | apply Wp.ret | apply Wp.skip)
end Go.Abs
