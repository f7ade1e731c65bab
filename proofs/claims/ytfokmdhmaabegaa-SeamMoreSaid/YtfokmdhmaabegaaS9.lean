/-
  Chapter 7: contracts of Part, Least, Worst; the statement SeamParts returns true.
-/
import Derived.Test.YtfokmdhmaabegaaS7
set_option linter.all false
namespace Go.Abs
set_option maxRecDepth 10000
set_option maxHeartbeats 4000000

def Mid (s : Span) : Prop := -4398046511104 ≤ s.lo ∧ s.lo ≤ 4398046511104 ∧ -4398046511104 ≤ s.hi ∧ s.hi ≤ 4398046511104
def farL (s : Span) : Int := max s.hi (0 - s.lo)
def worstL : List Span → Int := fun l => l.foldl (fun n s => max n (farL s)) 0
theorem worstL_take {l : List Span} {i : Nat} (h : i < l.length) : worstL (l.take (i + 1)) = max (worstL (l.take i)) (farL l[i]) := by
  unfold worstL
  rw [List.take_succ_eq_append_getElem h, List.foldl_append]
  rfl

theorem far_ok (a b : Int) (h : -4398046511104 ≤ a ∧ a ≤ 4398046511104) : lim F 70 [.agg [iv a, iv b]] = some (iv (max b (0 - a)), []) := by
  refine lim_by (fn := a70) (k := 1) (res := [.tmp 2]) rfl rfl rfl (by simp -implicitDefEqProofs (maxSteps := 2000000) (disch := first | exact tt_rfl rfl | omega | (simp only [go_sem] <;> omega) | fail) only [go_sem]) ?_
  simp -implicitDefEqProofs (maxSteps := 2000000) (disch := first | exact tt_rfl rfl | omega | (simp only [go_sem] <;> omega) | fail) only [go_sem]
  repeat (first | apply Wp.seqA | apply Wp.skipS | apply Wp.blockS | ((first | apply Wp.regS | apply Wp.condV | apply Wp.reg | apply Wp.condW | apply fin_ret); simp -implicitDefEqProofs (maxSteps := 2000000) (disch := first | exact tt_rfl rfl | omega | (simp only [go_sem] <;> omega) | fail) only [go_sem] <;> try with_reducible rfl) | apply Wp.block | apply Wp.exitS | apply Wp.retS | apply Wp.exit | apply Wp.ret | apply Wp.skip)
theorem Far_ok (a b : Int) (h : -4398046511104 ≤ a ∧ a ≤ 4398046511104) : lim F 31 [.agg [iv a, iv b]] = some (iv (max b (0 - a)), []) := by
  refine lim_by (fn := a31) (k := 1) (res := [.tmp 2]) rfl rfl rfl (by simp -implicitDefEqProofs (maxSteps := 2000000) (disch := first | exact tt_rfl rfl | omega | (simp only [go_sem] <;> omega) | fail) only [go_sem]) ?_
  simp -implicitDefEqProofs (maxSteps := 2000000) (disch := first | exact tt_rfl rfl | omega | (simp only [go_sem] <;> omega) | fail) only [go_sem]
  repeat (first | apply Wp.seqA | apply Wp.skipS | apply Wp.blockS | ((first | apply Wp.regS | apply Wp.condV | apply Wp.reg | apply Wp.condW | apply fin_ret); simp -implicitDefEqProofs (maxSteps := 2000000) (disch := first | exact tt_rfl rfl | omega | (simp only [go_sem] <;> omega) | fail) only [go_sem] <;> try with_reducible rfl) | apply Wp.block | apply Wp.exitS | apply Wp.retS | apply Wp.exit | apply Wp.ret | apply Wp.skip)

theorem worst_ok (l : List Span) (hl : l.length < 1000000) (hm : ∀ s ∈ l, Mid s) : lim F 71 [.list 2 (l.map Span.av)] = some (iv (worstL l), []) := by
  refine lim_by (fn := a71) (k := 1) (res := [.tmp 2]) rfl rfl rfl (by simp -implicitDefEqProofs (maxSteps := 2000000) (disch := first | exact tt_rfl rfl | omega | (simp only [go_sem] <;> omega) | fail) only [go_sem]) ?_
  simp -implicitDefEqProofs (maxSteps := 2000000) (disch := first | exact tt_rfl rfl | omega | (simp only [go_sem] <;> omega) | fail) only [go_sem]
  repeat (first | apply Wp.seqA | apply Wp.skipS | apply Wp.blockS | ((first | apply Wp.regS | apply Wp.condV | apply Wp.reg | apply Wp.condW | apply fin_ret); simp -implicitDefEqProofs (maxSteps := 2000000) (disch := first | exact tt_rfl rfl | omega | (simp only [go_sem] <;> omega) | fail) only [go_sem] <;> try with_reducible rfl) | apply Wp.block | apply Wp.exitS | apply Wp.retS | apply Wp.exit | apply Wp.ret | apply Wp.skip)
  apply Wp.loopF l.length (fun i => ⟨[(2, iv (worstL (l.take i))), (5, .list 2 (l.map Span.av)), (6, iv l.length), (7, iv i)], [], [], 1000000⟩) (fun _ => True)
  · simp -implicitDefEqProofs (maxSteps := 2000000) (disch := first | exact tt_rfl rfl | omega | (simp only [go_sem] <;> omega) | fail) only [go_sem, norm_eq, Ok.some]
    rfl
  · trivial
  intro i hi _
  by_cases h : i < l.length
  · have q := hm l[i] (List.getElem_mem h)
    have hf := far_ok l[i].lo l[i].hi ⟨q.1, q.2.1⟩
    repeat (first | apply Wp.seqA | apply Wp.skipS | apply Wp.blockS | ((first | apply Wp.regS | apply Wp.condV | apply Wp.reg | apply Wp.condW | apply fin_ret); simp -implicitDefEqProofs (maxSteps := 2000000) (disch := first | exact tt_rfl rfl | omega | (simp only [go_sem] <;> omega) | fail) only [go_sem, h, Int.ofNat_lt, List.getElem?_map, List.getElem?_eq_getElem h, Option.map_some, Span.av.eq_1, hf] <;> try with_reducible rfl) | apply Wp.block | apply Wp.exitS | apply Wp.retS | apply Wp.exit | apply Wp.ret | apply Wp.skip)
    apply round_next
    · simp -implicitDefEqProofs (maxSteps := 2000000) (disch := first | exact tt_rfl rfl | omega | (simp only [go_sem] <;> omega) | fail) only [go_sem, norm_eq, Ok.some]; with_reducible rfl
    refine ⟨h, ?_, trivial⟩
    rw [worstL_take h]; simp [farL]
  · obtain rfl : i = l.length := by omega
    repeat (first | apply Wp.seqA | apply Wp.skipS | apply Wp.blockS | ((first | apply Wp.regS | apply Wp.condV | apply Wp.reg | apply Wp.condW | apply fin_ret); simp -implicitDefEqProofs (maxSteps := 2000000) (disch := first | exact tt_rfl rfl | omega | (simp only [go_sem] <;> omega) | fail) only [go_sem, Int.lt_irrefl, List.take_length] <;> try with_reducible rfl) | apply Wp.block | apply Wp.exitS | apply Wp.retS | apply Wp.exit | apply Wp.ret | apply Wp.skip)

theorem Worst_ok (l : List Span) (hl : l.length < 1000000) (hm : ∀ s ∈ l, Mid s) : lim F 29 [.list 2 (l.map Span.av)] = some (iv (worstL l), []) := by
  refine lim_by (fn := a29) (k := 1) (res := [.tmp 2]) rfl rfl rfl (by simp -implicitDefEqProofs (maxSteps := 2000000) (disch := first | exact tt_rfl rfl | omega | (simp only [go_sem] <;> omega) | fail) only [go_sem]) ?_
  simp -implicitDefEqProofs (maxSteps := 2000000) (disch := first | exact tt_rfl rfl | omega | (simp only [go_sem] <;> omega) | fail) only [go_sem]
  repeat (first | apply Wp.seqA | apply Wp.skipS | apply Wp.blockS | ((first | apply Wp.regS | apply Wp.condV | apply Wp.reg | apply Wp.condW | apply fin_ret); simp -implicitDefEqProofs (maxSteps := 2000000) (disch := first | exact tt_rfl rfl | omega | (simp only [go_sem] <;> omega) | fail) only [go_sem] <;> try with_reducible rfl) | apply Wp.block | apply Wp.exitS | apply Wp.retS | apply Wp.exit | apply Wp.ret | apply Wp.skip)
  apply Wp.loopF l.length (fun i => ⟨[(0, .list 2 (l.map Span.av)), (3, iv (worstL (l.take i))), (4, iv i)], [], [], 1000000⟩) (fun _ => True)
  · simp -implicitDefEqProofs (maxSteps := 2000000) (disch := first | exact tt_rfl rfl | omega | (simp only [go_sem] <;> omega) | fail) only [go_sem, norm_eq, Ok.some]
    rfl
  · trivial
  intro i hi _
  by_cases h : i < l.length
  · have q := hm l[i] (List.getElem_mem h)
    have hf := Far_ok l[i].lo l[i].hi ⟨q.1, q.2.1⟩
    repeat (first | apply Wp.seqA | apply Wp.skipS | apply Wp.blockS | ((first | apply Wp.regS | apply Wp.condV | apply Wp.reg | apply Wp.condW | apply fin_ret); simp -implicitDefEqProofs (maxSteps := 2000000) (disch := first | exact tt_rfl rfl | omega | (simp only [go_sem] <;> omega) | fail) only [go_sem, h, Int.ofNat_lt, List.getElem?_map, List.getElem?_eq_getElem h, Option.map_some, Span.av.eq_1, hf] <;> try with_reducible rfl) | apply Wp.block | apply Wp.exitS | apply Wp.retS | apply Wp.exit | apply Wp.ret | apply Wp.skip)
    apply round_next
    · simp -implicitDefEqProofs (maxSteps := 2000000) (disch := first | exact tt_rfl rfl | omega | (simp only [go_sem] <;> omega) | fail) only [go_sem, norm_eq, Ok.some]; with_reducible rfl
    refine ⟨h, ?_, trivial⟩
    rw [worstL_take h]; simp [farL]
  · obtain rfl : i = l.length := by omega
    repeat (first | apply Wp.seqA | apply Wp.skipS | apply Wp.blockS | ((first | apply Wp.regS | apply Wp.condV | apply Wp.reg | apply Wp.condW | apply fin_ret); simp -implicitDefEqProofs (maxSteps := 2000000) (disch := first | exact tt_rfl rfl | omega | (simp only [go_sem] <;> omega) | fail) only [go_sem, Int.lt_irrefl, List.take_length] <;> try with_reducible rfl) | apply Wp.block | apply Wp.exitS | apply Wp.retS | apply Wp.exit | apply Wp.ret | apply Wp.skip)

/-- what follows from no error -/
theorem openE_zero {a b : List Part} {ts : List Int} (o : openE a b ts = 0) : (pairL a b).e = 0 ∧ (ts.all fun t => decide (1 ≤ t ∧ t ≤ (pairL a b).more.length)) = true ∧ incL ts = true ∧
    aheadGo (pairL a b).more 0 ts = some (openL a b ts) ∧ (∀ i, i < (widthsL a).length → ¬ BadAt (widthsL a) (widthsL b) ts i) ∧ openL a b ts = (List.range ((widthsL a).length + 1)).map (outR (widthsL a) (widthsL b) ts (widthsL a).length) := by
  have hE := o
  unfold openE at hE
  by_cases p0 : (pairL a b).e = 0
  · simp only [p0, ne_eq, not_true_eq_false, if_false] at hE
    by_cases p1 : (ts.all fun t => decide (1 ≤ t ∧ t ≤ ((pairL a b).more.length : Int))) = false
    · rw [if_pos p1] at hE; omega
    · rw [if_neg p1] at hE
      by_cases p2 : incL ts = false
      · rw [if_pos p2] at hE; omega
      · rw [if_neg p2] at hE
        obtain ⟨m1, m2⟩ := ahead_ref (ts := ts) p0 (by simpa using p1) (by simpa using p2)
        cases hgo : aheadGo (pairL a b).more 0 ts with
        | none => rw [hgo] at hE; simp at hE
        | some l =>
          obtain ⟨k1, k2⟩ := m1 l hgo
          have e2 : openL a b ts = l := by simp [openL, o, hgo]
          exact ⟨p0, by simpa using p1, by simpa using p2, by rw [e2], k1, by rw [e2]; exact k2⟩
  · simp only [p0, ne_eq, not_false_eq_true, if_true] at hE

theorem open_len {a b : List Part} {ts : List Int} : (openL a b ts).length ≤ 201 := by
  by_cases o : openE a b ts = 0
  · obtain ⟨h0, _, _, _, _, h5⟩ := openE_zero o
    have := (widths_small (pairL_ok h0).1).1
    rw [h5]; simp; omega
  · simp [openL, o]
theorem open_mid {a b : List Part} {ts : List Int} : ∀ s ∈ openL a b ts, Mid s := by
  intro s hs
  by_cases o : openE a b ts = 0
  · obtain ⟨h0, _, _, _, _, h5⟩ := openE_zero o
    obtain ⟨c1, c2, _, _⟩ := pairL_ok h0
    have wa := wide_of (checkL_zero c1).2.1
    have wb := wide_of (checkL_zero c2).2.1
    have hn := (widths_small c1).1
    rw [h5] at hs
    obtain ⟨j, hj, rfl⟩ := List.mem_map.1 hs
    have hj := List.mem_range.1 hj
    have b1 := fo_bound (ts := ts) wa wb j
    have b2 := ba_bound (ts := ts) (n := (widthsL a).length) wa wb ((widthsL a).length - j)
    unfold Mid outR
    dsimp only
    have : (((widthsL a).length - j : Nat) : Int) ≤ 200 := by omega
    omega
  · simp [openL, o] at hs

theorem Least_ok (a b : List Part) (ts : List Int) (hts : ts.length ≤ 1000) : lim F 28 [.list 3 (a.map Part.av), .list 3 (b.map Part.av), .list 1 (ts.map fun n => iv n)] =
    some (.tuple [iv (worstL (openL a b ts)), iv (openE a b ts)], []) := by
  have h := open_ok a b ts hts
  have hw := worst_ok (openL a b ts) (by have := open_len (a := a) (b := b) (ts := ts); omega) open_mid
  simp only [PairL.av] at h
  by_cases h0 : openE a b ts = 0
  · rw [h0] at h ⊢
    refine lim_by (fn := a28) (k := 3) (res := [.tmp 6, .tmp 7]) rfl rfl rfl (by simp -implicitDefEqProofs (maxSteps := 2000000) (disch := first | exact tt_rfl rfl | omega | (simp only [go_sem] <;> omega) | fail) only [go_sem]) ?_
    simp -implicitDefEqProofs (maxSteps := 2000000) (disch := first | exact tt_rfl rfl | omega | (simp only [go_sem] <;> omega) | fail) only [go_sem]
    repeat (first | apply Wp.seqA | apply Wp.skipS | apply Wp.blockS | ((first | apply Wp.regS | apply Wp.condV | apply Wp.reg | apply Wp.condW | apply fin_ret); simp -implicitDefEqProofs (maxSteps := 2000000) (disch := first | exact tt_rfl rfl | omega | (simp only [go_sem] <;> omega) | fail) only [go_sem, h, hw] <;> try with_reducible rfl) | apply Wp.block | apply Wp.exitS | apply Wp.retS | apply Wp.exit | apply Wp.ret | apply Wp.skip)
  · have e : openL a b ts = [] := by simp [openL, h0]
    rw [e] at h ⊢
    refine lim_by (fn := a28) (k := 3) (res := [.tmp 6, .tmp 7]) rfl rfl rfl (by simp -implicitDefEqProofs (maxSteps := 2000000) (disch := first | exact tt_rfl rfl | omega | (simp only [go_sem] <;> omega) | fail) only [go_sem]) ?_
    simp -implicitDefEqProofs (maxSteps := 2000000) (disch := first | exact tt_rfl rfl | omega | (simp only [go_sem] <;> omega) | fail) only [go_sem]
    repeat (first | apply Wp.seqA | apply Wp.skipS | apply Wp.blockS | ((first | apply Wp.regS | apply Wp.condV | apply Wp.reg | apply Wp.condW | apply fin_ret); simp -implicitDefEqProofs (maxSteps := 2000000) (disch := first | exact tt_rfl rfl | omega | (simp only [go_sem] <;> omega) | fail) only [go_sem, h, h0] <;> try with_reducible rfl) | apply Wp.block | apply Wp.exitS | apply Wp.retS | apply Wp.exit | apply Wp.ret | apply Wp.skip)
    rfl

theorem Part_ok (a b : List Part) (ts : List Int) (tol : Int) (hts : ts.length ≤ 1000) (x y e : Int)
    (h1 : openE a b ts ≠ 0 → x = 0 ∧ y = 0 ∧ e = openE a b ts)
    (h2 : openE a b ts = 0 → ¬ (0 ≤ tol ∧ tol ≤ 2000000) → x = 0 ∧ y = 0 ∧ e = 3)
    (h3 : openE a b ts = 0 → (0 ≤ tol ∧ tol ≤ 2000000) → ∀ i (h : i < (openL a b ts).length), tol < farL (openL a b ts)[i] → (∀ j (h : j < (openL a b ts).length), j < i → ¬ tol < farL (openL a b ts)[j]) → x = i ∧ y = farL (openL a b ts)[i] ∧ e = 0)
    (h4 : openE a b ts = 0 → (0 ≤ tol ∧ tol ≤ 2000000) → (∀ j (h : j < (openL a b ts).length), ¬ tol < farL (openL a b ts)[j]) → x = 0 ∧ y = 0 ∧ e = 7) :
    lim F 27 [.list 3 (a.map Part.av), .list 3 (b.map Part.av), .list 1 (ts.map fun n => iv n), iv tol] = some (.tuple [iv x, iv y, iv e], []) := by
  have h := open_ok a b ts hts
  simp only [PairL.av] at h
  have hlen := open_len (a := a) (b := b) (ts := ts)
  have hmid := open_mid (a := a) (b := b) (ts := ts)
  by_cases h0 : openE a b ts = 0
  · have hw := within_ok 0 2000000 [tol] (by simp)
    simp only [List.map_cons, List.map_nil, List.all_cons, List.all_nil, Bool.and_true] at hw
    by_cases c : 0 ≤ tol ∧ tol ≤ 2000000
    · have h3 := h3 h0 c
      have h4 := h4 h0 c
      rw [h0] at h
      rw [decide_eq_true c] at hw
      clear h1 h2
      generalize openL a b ts = l at *
      refine lim_by (fn := a27) (k := 4) (res := [.tmp 8, .tmp 9, .tmp 10]) rfl rfl rfl (by simp -implicitDefEqProofs (maxSteps := 2000000) (disch := first | exact tt_rfl rfl | omega | (simp only [go_sem] <;> omega) | fail) only [go_sem]) ?_
      simp -implicitDefEqProofs (maxSteps := 2000000) (disch := first | exact tt_rfl rfl | omega | (simp only [go_sem] <;> omega) | fail) only [go_sem]
      repeat (first | apply Wp.seqA | apply Wp.skipS | apply Wp.blockS | ((first | apply Wp.regS | apply Wp.condV | apply Wp.reg | apply Wp.condW | apply fin_ret); simp -implicitDefEqProofs (maxSteps := 2000000) (disch := first | exact tt_rfl rfl | omega | (simp only [go_sem] <;> omega) | fail) only [go_sem, h, hw] <;> try with_reducible rfl) | apply Wp.block | apply Wp.exitS | apply Wp.retS | apply Wp.exit | apply Wp.ret | apply Wp.skip)
      apply Wp.loopF l.length (fun i => ⟨[(3, iv tol), (32, .slice 2048 0 l.length), (33, iv l.length), (34, iv i)], [(2048, .arr 2 (l.map Span.av))], [], 1000000⟩) (fun i => ∀ j (h : j < l.length), j < i → ¬ tol < farL l[j])
      · simp -implicitDefEqProofs (maxSteps := 2000000) (disch := first | exact tt_rfl rfl | omega | (simp only [go_sem] <;> omega) | fail) only [go_sem, norm_eq, Ok.some]
      · intro j _ hj; omega
      intro i hi hn
      by_cases hil : i < l.length
      · have q := hmid l[i] (List.getElem_mem hil)
        have hf := far_ok l[i].lo l[i].hi ⟨q.1, q.2.1⟩
        by_cases c2 : tol < max l[i].hi (0 - l[i].lo)
        · obtain ⟨rfl, rfl, rfl⟩ := h3 i hil c2 hn
          repeat (first | apply Wp.seqA | apply Wp.skipS | apply Wp.blockS | ((first | apply Wp.regS | apply Wp.condV | apply Wp.reg | apply Wp.condW | apply fin_ret); simp -implicitDefEqProofs (maxSteps := 2000000) (disch := first | exact tt_rfl rfl | omega | (simp only [go_sem] <;> omega) | fail) only [go_sem, hil, Int.ofNat_lt, List.getElem?_map, List.getElem?_eq_getElem hil, Option.map_some, Span.av.eq_1, hf, c2] <;> try with_reducible rfl) | apply Wp.block | apply Wp.exitS | apply Wp.retS | apply Wp.exit | apply Wp.ret | apply Wp.skip)
          rfl
        · repeat (first | apply Wp.seqA | apply Wp.skipS | apply Wp.blockS | ((first | apply Wp.regS | apply Wp.condV | apply Wp.reg | apply Wp.condW | apply fin_ret); simp -implicitDefEqProofs (maxSteps := 2000000) (disch := first | exact tt_rfl rfl | omega | (simp only [go_sem] <;> omega) | fail) only [go_sem, hil, Int.ofNat_lt, List.getElem?_map, List.getElem?_eq_getElem hil, Option.map_some, Span.av.eq_1, hf, c2] <;> try with_reducible rfl) | apply Wp.block | apply Wp.exitS | apply Wp.retS | apply Wp.exit | apply Wp.ret | apply Wp.skip)
          apply round_next
          · simp -implicitDefEqProofs (maxSteps := 2000000) (disch := first | exact tt_rfl rfl | omega | (simp only [go_sem] <;> omega) | fail) only [go_sem, norm_eq, Ok.some]; with_reducible rfl
          refine ⟨hil, by simp, fun j hj hji => ?_⟩
          by_cases e : j = i
          · subst e; exact c2
          · exact hn j hj (by omega)
      · obtain rfl : i = l.length := by omega
        obtain ⟨rfl, rfl, rfl⟩ := h4 fun j hj => hn j hj hj
        repeat (first | apply Wp.seqA | apply Wp.skipS | apply Wp.blockS | ((first | apply Wp.regS | apply Wp.condV | apply Wp.reg | apply Wp.condW | apply fin_ret); simp -implicitDefEqProofs (maxSteps := 2000000) (disch := first | exact tt_rfl rfl | omega | (simp only [go_sem] <;> omega) | fail) only [go_sem, Int.lt_irrefl] <;> try with_reducible rfl) | apply Wp.block | apply Wp.exitS | apply Wp.retS | apply Wp.exit | apply Wp.ret | apply Wp.skip)
    · obtain ⟨rfl, rfl, rfl⟩ := h2 h0 c
      rw [h0] at h
      rw [decide_eq_false c] at hw
      refine lim_by (fn := a27) (k := 4) (res := [.tmp 8, .tmp 9, .tmp 10]) rfl rfl rfl (by simp -implicitDefEqProofs (maxSteps := 2000000) (disch := first | exact tt_rfl rfl | omega | (simp only [go_sem] <;> omega) | fail) only [go_sem]) ?_
      simp -implicitDefEqProofs (maxSteps := 2000000) (disch := first | exact tt_rfl rfl | omega | (simp only [go_sem] <;> omega) | fail) only [go_sem]
      repeat (first | apply Wp.seqA | apply Wp.skipS | apply Wp.blockS | ((first | apply Wp.regS | apply Wp.condV | apply Wp.reg | apply Wp.condW | apply fin_ret); simp -implicitDefEqProofs (maxSteps := 2000000) (disch := first | exact tt_rfl rfl | omega | (simp only [go_sem] <;> omega) | fail) only [go_sem, h, hw] <;> try with_reducible rfl) | apply Wp.block | apply Wp.exitS | apply Wp.retS | apply Wp.exit | apply Wp.ret | apply Wp.skip)
  · obtain ⟨rfl, rfl, rfl⟩ := h1 h0
    have e : openL a b ts = [] := by simp [openL, h0]
    rw [e] at h
    refine lim_by (fn := a27) (k := 4) (res := [.tmp 8, .tmp 9, .tmp 10]) rfl rfl rfl (by simp -implicitDefEqProofs (maxSteps := 2000000) (disch := first | exact tt_rfl rfl | omega | (simp only [go_sem] <;> omega) | fail) only [go_sem]) ?_
    simp -implicitDefEqProofs (maxSteps := 2000000) (disch := first | exact tt_rfl rfl | omega | (simp only [go_sem] <;> omega) | fail) only [go_sem]
    repeat (first | apply Wp.seqA | apply Wp.skipS | apply Wp.blockS | ((first | apply Wp.regS | apply Wp.condV | apply Wp.reg | apply Wp.condW | apply fin_ret); simp -implicitDefEqProofs (maxSteps := 2000000) (disch := first | exact tt_rfl rfl | omega | (simp only [go_sem] <;> omega) | fail) only [go_sem, h, h0] <;> try with_reducible rfl) | apply Wp.block | apply Wp.exitS | apply Wp.retS | apply Wp.exit | apply Wp.ret | apply Wp.skip)
end Go.Abs
