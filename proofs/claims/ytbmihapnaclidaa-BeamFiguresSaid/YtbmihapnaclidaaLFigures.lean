/-
  BeamFigures: what it looks at is so, for every take-up, every span, all picks and notes.
-/
import Derived.Test.YtbmihapnaclidaaF2
import Derived.Test.YtbmihapnaclidaaKnown
set_option linter.all false
namespace Go.Abs
set_option maxRecDepth 10000
set_option maxHeartbeats 8000000

structure ClothA where
  lo : Int
  hi : Int
  p : Int
  l : List NoteA
def ClothA.av (x : ClothA) : AV := .agg [iv x.lo, iv x.hi, iv x.p, .list 3 (x.l.map NoteA.av)]

theorem prefix_ok (t : TakeA) (s : Int × Int) (l : List NoteA) (i : Nat) (hlen : l.length < 1000000) (hc : checkT t = 0) (hs : SpanOk s.1 s.2 0 200) (hl : ∀ x ∈ l, x.Ok) (so : Int × Int) (hso : so = spanAt t s l i) :
    lim F 35 [t.av, .agg [iv s.1, iv s.2], .list 3 ((l.map NoteA.av).take i)] = some (.tuple [.agg [iv (if so.1 ≤ so.2 then so.1 else 0), iv (if so.1 ≤ so.2 then so.2 else 0)], .bool (decide (so.1 ≤ so.2))], []) := by
  have h := refRelaxed_ok t s (l.take i) (by rw [List.length_take]; omega) hc hs (fun x hx => hl x (List.mem_of_mem_take hx)) so (by rw [hso]; unfold spanAt; rw [List.take_length])
  rw [List.map_take] at h
  exact h

theorem figures_end (t : TakeA) (x : ClothA) (hl : ¬ 10 < t.pairs.length) (hn : ¬ 25 < x.l.length) (code : Int) (hcode : code = 2 ∨ code = 5) (hE : figE t x.lo x.hi x.p = code) (hR : relE t (x.lo, x.hi) x.l = code)
    (hh : checkT t = code ∨ checkT t = 0 ∧ code = 2 ∧ ¬ SpanOk x.lo x.hi 0 200) : lim F 5 [t.av, x.av] = some (.bool true, []) := by
  have kn := known_ok
  have o1 := own_ok t (by omega)
  have o2 := notes_ok x.l (by omega)
  have c1 := Figure_ok t x.lo x.hi x.p
  have c2 := Relaxed_ok t (x.lo, x.hi) x.l (by omega)
  have c3 := Same_ok t (by omega)
  have c4 := refNotes_ok x.l (by omega)
  have c5 := refCheck_ok t
  have c6 := refSpan_ok x.lo x.hi 0 200
  unfold relV relAt at c2
  rw [hR, if_neg (by omega), if_neg (by omega)] at c2
  rw [hE, if_neg (by omega), if_neg (by omega)] at c1
  unfold TakeA.av ClothA.av at *
  rcases hh with hc | ⟨hc, rfl, hs⟩
  · rw [hc] at c5
    rcases hcode with rfl | rfl
    · refine lim_by (fn := a5) (k := 2) (res := [.tmp 4]) rfl rfl rfl (by simp -implicitDefEqProofs (maxSteps := 2000000) (disch := first | exact tt_rfl rfl | omega | (simp only [go_sem] <;> omega) | fail) only [go_sem]) ?_
      simp -implicitDefEqProofs (maxSteps := 2000000) (disch := first | exact tt_rfl rfl | omega | (simp only [go_sem] <;> omega) | fail) only [go_sem]
      repeat (first | apply Wp.seqA | apply Wp.skipS | apply Wp.blockS | ((first | apply Wp.regS | apply Wp.condV | apply Wp.reg | apply Wp.condW | apply fin_ret); simp -implicitDefEqProofs (maxSteps := 2000000) (disch := first | exact tt_rfl rfl | omega | (simp only [go_sem] <;> omega) | fail) only [go_sem, hl, hn, show ¬ (10 : Int) < t.pairs.length by omega, show ¬ (25 : Int) < x.l.length by omega, o1, o2, c1, c2, c3, c4, c5] <;> try with_reducible rfl) | apply Wp.block | apply Wp.exitS | apply Wp.retS | apply Wp.exit | apply Wp.ret | apply Wp.skip)
      apply Wp.loopF 0 (fun i => ⟨[(2, .ptr 128 0 0), (3, .ptr 192 0 0), (7, .ptr 448 0 0), (8, iv (2)), (9, .ptr 576 0 0), (10, iv (0)), (11, iv (2)), (12, iv (2)), (13, iv (2)), (14, iv i)], [(128, .box [iv t.rat, iv t.step, .list 2 (t.pairs.map PairT.av), iv t.round]), (192, .box [iv x.lo, iv x.hi, iv x.p, .list 3 (x.l.map NoteA.av)]), (448, .box [iv (0), iv (0)]), (576, .box [iv (0), iv (0)])], [], 10000000⟩) (fun _ => True)
      · simp -implicitDefEqProofs (maxSteps := 2000000) (disch := first | exact tt_rfl rfl | omega | (simp only [go_sem] <;> omega) | fail) only [go_sem, norm_eq, Ok.some]
        rfl
      · trivial
      intro i hi _
      obtain rfl : i = 0 := by omega
      by_cases hz : 0 < x.l.length
      · repeat (first | apply Wp.seqA | apply Wp.skipS | apply Wp.blockS | ((first | apply Wp.regS | apply Wp.condV | apply Wp.reg | apply Wp.condW | apply fin_ret); simp -implicitDefEqProofs (maxSteps := 2000000) (disch := first | exact tt_rfl rfl | omega | (simp only [go_sem] <;> omega) | fail) only [go_sem, show ((0 : Nat) : Int) < x.l.length by omega, kn, kn, beq_self_eq_true, bne_self_eq_false] <;> try with_reducible rfl) | apply Wp.block | apply Wp.exitS | apply Wp.retS | apply Wp.exit | apply Wp.ret | apply Wp.skip)
      · repeat (first | apply Wp.seqA | apply Wp.skipS | apply Wp.blockS | ((first | apply Wp.regS | apply Wp.condV | apply Wp.reg | apply Wp.condW | apply fin_ret); simp -implicitDefEqProofs (maxSteps := 2000000) (disch := first | exact tt_rfl rfl | omega | (simp only [go_sem] <;> omega) | fail) only [go_sem, show ¬ ((0 : Nat) : Int) < x.l.length by omega, kn, kn, beq_self_eq_true, bne_self_eq_false] <;> try with_reducible rfl) | apply Wp.block | apply Wp.exitS | apply Wp.retS | apply Wp.exit | apply Wp.ret | apply Wp.skip)
    · refine lim_by (fn := a5) (k := 2) (res := [.tmp 4]) rfl rfl rfl (by simp -implicitDefEqProofs (maxSteps := 2000000) (disch := first | exact tt_rfl rfl | omega | (simp only [go_sem] <;> omega) | fail) only [go_sem]) ?_
      simp -implicitDefEqProofs (maxSteps := 2000000) (disch := first | exact tt_rfl rfl | omega | (simp only [go_sem] <;> omega) | fail) only [go_sem]
      repeat (first | apply Wp.seqA | apply Wp.skipS | apply Wp.blockS | ((first | apply Wp.regS | apply Wp.condV | apply Wp.reg | apply Wp.condW | apply fin_ret); simp -implicitDefEqProofs (maxSteps := 2000000) (disch := first | exact tt_rfl rfl | omega | (simp only [go_sem] <;> omega) | fail) only [go_sem, hl, hn, show ¬ (10 : Int) < t.pairs.length by omega, show ¬ (25 : Int) < x.l.length by omega, o1, o2, c1, c2, c3, c4, c5] <;> try with_reducible rfl) | apply Wp.block | apply Wp.exitS | apply Wp.retS | apply Wp.exit | apply Wp.ret | apply Wp.skip)
      apply Wp.loopF 0 (fun i => ⟨[(2, .ptr 128 0 0), (3, .ptr 192 0 0), (7, .ptr 448 0 0), (8, iv (5)), (9, .ptr 576 0 0), (10, iv (0)), (11, iv (5)), (12, iv (5)), (13, iv (5)), (14, iv i)], [(128, .box [iv t.rat, iv t.step, .list 2 (t.pairs.map PairT.av), iv t.round]), (192, .box [iv x.lo, iv x.hi, iv x.p, .list 3 (x.l.map NoteA.av)]), (448, .box [iv (0), iv (0)]), (576, .box [iv (0), iv (0)])], [], 10000000⟩) (fun _ => True)
      · simp -implicitDefEqProofs (maxSteps := 2000000) (disch := first | exact tt_rfl rfl | omega | (simp only [go_sem] <;> omega) | fail) only [go_sem, norm_eq, Ok.some]
        rfl
      · trivial
      intro i hi _
      obtain rfl : i = 0 := by omega
      by_cases hz : 0 < x.l.length
      · repeat (first | apply Wp.seqA | apply Wp.skipS | apply Wp.blockS | ((first | apply Wp.regS | apply Wp.condV | apply Wp.reg | apply Wp.condW | apply fin_ret); simp -implicitDefEqProofs (maxSteps := 2000000) (disch := first | exact tt_rfl rfl | omega | (simp only [go_sem] <;> omega) | fail) only [go_sem, show ((0 : Nat) : Int) < x.l.length by omega, kn, kn, beq_self_eq_true, bne_self_eq_false] <;> try with_reducible rfl) | apply Wp.block | apply Wp.exitS | apply Wp.retS | apply Wp.exit | apply Wp.ret | apply Wp.skip)
      · repeat (first | apply Wp.seqA | apply Wp.skipS | apply Wp.blockS | ((first | apply Wp.regS | apply Wp.condV | apply Wp.reg | apply Wp.condW | apply fin_ret); simp -implicitDefEqProofs (maxSteps := 2000000) (disch := first | exact tt_rfl rfl | omega | (simp only [go_sem] <;> omega) | fail) only [go_sem, show ¬ ((0 : Nat) : Int) < x.l.length by omega, kn, kn, beq_self_eq_true, bne_self_eq_false] <;> try with_reducible rfl) | apply Wp.block | apply Wp.exitS | apply Wp.retS | apply Wp.exit | apply Wp.ret | apply Wp.skip)
  · rw [hc] at c5
    rw [decide_eq_false hs] at c6
    refine lim_by (fn := a5) (k := 2) (res := [.tmp 4]) rfl rfl rfl (by simp -implicitDefEqProofs (maxSteps := 2000000) (disch := first | exact tt_rfl rfl | omega | (simp only [go_sem] <;> omega) | fail) only [go_sem]) ?_
    simp -implicitDefEqProofs (maxSteps := 2000000) (disch := first | exact tt_rfl rfl | omega | (simp only [go_sem] <;> omega) | fail) only [go_sem]
    repeat (first | apply Wp.seqA | apply Wp.skipS | apply Wp.blockS | ((first | apply Wp.regS | apply Wp.condV | apply Wp.reg | apply Wp.condW | apply fin_ret); simp -implicitDefEqProofs (maxSteps := 2000000) (disch := first | exact tt_rfl rfl | omega | (simp only [go_sem] <;> omega) | fail) only [go_sem, hl, hn, show ¬ (10 : Int) < t.pairs.length by omega, show ¬ (25 : Int) < x.l.length by omega, o1, o2, c1, c2, c3, c4, c5, c6] <;> try with_reducible rfl) | apply Wp.block | apply Wp.exitS | apply Wp.retS | apply Wp.exit | apply Wp.ret | apply Wp.skip)
    apply Wp.loopF 0 (fun i => ⟨[(2, .ptr 128 0 0), (3, .ptr 192 0 0), (7, .ptr 448 0 0), (8, iv (2)), (9, .ptr 576 0 0), (10, iv (0)), (11, iv (2)), (12, iv (2)), (13, iv (2)), (14, iv i)], [(128, .box [iv t.rat, iv t.step, .list 2 (t.pairs.map PairT.av), iv t.round]), (192, .box [iv x.lo, iv x.hi, iv x.p, .list 3 (x.l.map NoteA.av)]), (448, .box [iv (0), iv (0)]), (576, .box [iv (0), iv (0)])], [], 10000000⟩) (fun _ => True)
    · simp -implicitDefEqProofs (maxSteps := 2000000) (disch := first | exact tt_rfl rfl | omega | (simp only [go_sem] <;> omega) | fail) only [go_sem, norm_eq, Ok.some]
      rfl
    · trivial
    intro i hi _
    obtain rfl : i = 0 := by omega
    by_cases hz : 0 < x.l.length
    · repeat (first | apply Wp.seqA | apply Wp.skipS | apply Wp.blockS | ((first | apply Wp.regS | apply Wp.condV | apply Wp.reg | apply Wp.condW | apply fin_ret); simp -implicitDefEqProofs (maxSteps := 2000000) (disch := first | exact tt_rfl rfl | omega | (simp only [go_sem] <;> omega) | fail) only [go_sem, show ((0 : Nat) : Int) < x.l.length by omega, kn, kn, beq_self_eq_true, bne_self_eq_false] <;> try with_reducible rfl) | apply Wp.block | apply Wp.exitS | apply Wp.retS | apply Wp.exit | apply Wp.ret | apply Wp.skip)
    · repeat (first | apply Wp.seqA | apply Wp.skipS | apply Wp.blockS | ((first | apply Wp.regS | apply Wp.condV | apply Wp.reg | apply Wp.condW | apply fin_ret); simp -implicitDefEqProofs (maxSteps := 2000000) (disch := first | exact tt_rfl rfl | omega | (simp only [go_sem] <;> omega) | fail) only [go_sem, show ¬ ((0 : Nat) : Int) < x.l.length by omega, kn, kn, beq_self_eq_true, bne_self_eq_false] <;> try with_reducible rfl) | apply Wp.block | apply Wp.exitS | apply Wp.retS | apply Wp.exit | apply Wp.ret | apply Wp.skip)

theorem figures_go (t : TakeA) (x : ClothA) (hl : ¬ 10 < t.pairs.length) (hn : ¬ 25 < x.l.length) (hc : checkT t = 0) (hs : SpanOk x.lo x.hi 0 200) (fe sa sb : Int) (hfe : fe = 0 ∨ fe = 3)
    (c1 : lim F 28 [t.av, .agg [iv x.lo, iv x.hi], iv x.p] = some (.tuple [.agg [iv sa, iv sb], iv fe], [])) (c7 : lim F 21 [iv x.p, iv 1, iv 100000] = some (.bool (decide (fe = 0)), []))
    (z : fe ≠ 0 → sa = 0 ∧ sb = 0) (g1 : fe = 0 → lim F 34 [t.av, iv x.p, iv x.hi] = some (iv sa, [])) (g2 : fe = 0 → lim F 34 [t.av, iv x.p, iv x.lo] = some (iv sb, [])) :
    lim F 5 [t.av, x.av] = some (.bool true, []) := by
  have kn := known_ok
  have o1 := own_ok t (by omega)
  have o2 := notes_ok x.l (by omega)
  have c2 := Relaxed_ok t (x.lo, x.hi) x.l (by omega)
  have c3 := Same_ok t (by omega)
  have c4 := refNotes_ok x.l (by omega)
  have c5 := refCheck_ok t
  have c6 := refSpan_ok x.lo x.hi 0 200
  have c8 := span_ok sa sb
  rw [hc] at c5
  rw [decide_eq_true hs] at c6
  have pre := fun i => prefix_ok t (x.lo, x.hi) x.l i (by omega) hc hs
  rcases hfe with rfl | rfl
  · replace g1 := g1 rfl
    replace g2 := g2 rfl
    by_cases h20 : 20 < x.l.length
    · have hR : relE t (x.lo, x.hi) x.l = 5 := by unfold relE; rw [if_pos hc, if_pos hs, if_pos h20]
      unfold relV relAt at c2
      rw [hR, if_neg (by omega), if_neg (by omega)] at c2
      unfold TakeA.av ClothA.av at *
      refine lim_by (fn := a5) (k := 2) (res := [.tmp 4]) rfl rfl rfl (by simp -implicitDefEqProofs (maxSteps := 2000000) (disch := first | exact tt_rfl rfl | omega | (simp only [go_sem] <;> omega) | fail) only [go_sem]) ?_
      simp -implicitDefEqProofs (maxSteps := 2000000) (disch := first | exact tt_rfl rfl | omega | (simp only [go_sem] <;> omega) | fail) only [go_sem]
      repeat (first | apply Wp.seqA | apply Wp.skipS | apply Wp.blockS | ((first | apply Wp.regS | apply Wp.condV | apply Wp.reg | apply Wp.condW | apply fin_ret); simp -implicitDefEqProofs (maxSteps := 2000000) (disch := first | exact tt_rfl rfl | omega | (simp only [go_sem] <;> omega) | fail) only [go_sem, hl, hn, show ¬ (10 : Int) < t.pairs.length by omega, show ¬ (25 : Int) < x.l.length by omega, show (20 : Int) < x.l.length by omega, gt_iff_lt, o1, o2, c1, c2, c3, c4, c5, c6, c7] <;> try with_reducible rfl) | apply Wp.block | apply Wp.exitS | apply Wp.retS | apply Wp.exit | apply Wp.ret | apply Wp.skip)
      apply Wp.loopF 0 (fun i => ⟨[(2, .ptr 128 0 0), (3, .ptr 192 0 0), (7, .ptr 448 0 0), (8, iv (0)), (9, .ptr 576 0 0), (10, iv (0)), (11, iv (5)), (12, iv (0)), (13, iv (5)), (14, iv i)], [(128, .box [iv t.rat, iv t.step, .list 2 (t.pairs.map PairT.av), iv t.round]), (192, .box [iv x.lo, iv x.hi, iv x.p, .list 3 (x.l.map NoteA.av)]), (448, .box [iv (sa), iv (sb)]), (576, .box [iv (0), iv (0)])], [], 10000000⟩) (fun _ => True)
      · simp -implicitDefEqProofs (maxSteps := 2000000) (disch := first | exact tt_rfl rfl | omega | (simp only [go_sem] <;> omega) | fail) only [go_sem, norm_eq, Ok.some]
        rfl
      · trivial
      intro i hi _
      obtain rfl : i = 0 := by omega
      by_cases hz : 0 < x.l.length
      · repeat (first | apply Wp.seqA | apply Wp.skipS | apply Wp.blockS | ((first | apply Wp.regS | apply Wp.condV | apply Wp.reg | apply Wp.condW | apply fin_ret); simp -implicitDefEqProofs (maxSteps := 2000000) (disch := first | exact tt_rfl rfl | omega | (simp only [go_sem] <;> omega) | fail) only [go_sem, show ((0 : Nat) : Int) < x.l.length by omega, g1, g2, c8, kn, beq_self_eq_true, bne_self_eq_false] <;> try with_reducible rfl) | apply Wp.block | apply Wp.exitS | apply Wp.retS | apply Wp.exit | apply Wp.ret | apply Wp.skip)
      · repeat (first | apply Wp.seqA | apply Wp.skipS | apply Wp.blockS | ((first | apply Wp.regS | apply Wp.condV | apply Wp.reg | apply Wp.condW | apply fin_ret); simp -implicitDefEqProofs (maxSteps := 2000000) (disch := first | exact tt_rfl rfl | omega | (simp only [go_sem] <;> omega) | fail) only [go_sem, show ¬ ((0 : Nat) : Int) < x.l.length by omega, g1, g2, c8, kn, beq_self_eq_true, bne_self_eq_false] <;> try with_reducible rfl) | apply Wp.block | apply Wp.exitS | apply Wp.retS | apply Wp.exit | apply Wp.ret | apply Wp.skip)
    · have rE : relE t (x.lo, x.hi) x.l = if ∀ y ∈ x.l, y.Ok then if badAt t (x.lo, x.hi) x.l < x.l.length then 9 else 0 else 2 := by unfold relE; rw [if_pos hc, if_pos hs, if_neg h20]
      have v2 : relE t (x.lo, x.hi) x.l = 2 → relV t (x.lo, x.hi) x.l = (0, 0) ∧ relAt t (x.lo, x.hi) x.l = 0 := by intro h; unfold relV relAt; rw [h, if_neg (by omega), if_neg (by omega)]; exact ⟨rfl, rfl⟩
      have v9 : relE t (x.lo, x.hi) x.l = 9 → relV t (x.lo, x.hi) x.l = (0, 0) ∧ relAt t (x.lo, x.hi) x.l = badAt t (x.lo, x.hi) x.l := by intro h; unfold relV relAt; rw [h, if_neg (by omega), if_pos rfl]; exact ⟨rfl, rfl⟩
      have v0 : relE t (x.lo, x.hi) x.l = 0 → relV t (x.lo, x.hi) x.l = spanAt t (x.lo, x.hi) x.l x.l.length ∧ relAt t (x.lo, x.hi) x.l = 0 := by intro h; unfold relV relAt; rw [h, if_pos rfl, if_neg (by omega)]; exact ⟨rfl, rfl⟩
      have fno : ∀ j, j < badAt t (x.lo, x.hi) x.l → (spanAt t (x.lo, x.hi) x.l (j + 1)).1 ≤ (spanAt t (x.lo, x.hi) x.l (j + 1)).2 := by
        intro j hj
        have := firstP_no hj
        rw [decide_eq_false_iff_not] at this
        omega
      have fyes : badAt t (x.lo, x.hi) x.l < x.l.length → ¬ (spanAt t (x.lo, x.hi) x.l (badAt t (x.lo, x.hi) x.l + 1)).1 ≤ (spanAt t (x.lo, x.hi) x.l (badAt t (x.lo, x.hi) x.l + 1)).2 := by
        intro hj
        have := firstP_yes hj
        rw [decide_eq_true_eq] at this
        change (spanAt t (x.lo, x.hi) x.l (badAt t (x.lo, x.hi) x.l + 1)).2 < (spanAt t (x.lo, x.hi) x.l (badAt t (x.lo, x.hi) x.l + 1)).1 at this
        omega
      have s00 : (spanAt t (x.lo, x.hi) x.l 0).1 ≤ (spanAt t (x.lo, x.hi) x.l 0).2 := hs.2.1
      generalize badAt t (x.lo, x.hi) x.l = bd at *
      generalize relE t (x.lo, x.hi) x.l = re at *
      generalize relV t (x.lo, x.hi) x.l = rv at *
      generalize relAt t (x.lo, x.hi) x.l = ra at *
      unfold TakeA.av ClothA.av at *
      refine lim_by (fn := a5) (k := 2) (res := [.tmp 4]) rfl rfl rfl (by simp -implicitDefEqProofs (maxSteps := 2000000) (disch := first | exact tt_rfl rfl | omega | (simp only [go_sem] <;> omega) | fail) only [go_sem]) ?_
      simp -implicitDefEqProofs (maxSteps := 2000000) (disch := first | exact tt_rfl rfl | omega | (simp only [go_sem] <;> omega) | fail) only [go_sem]
      repeat (first | apply Wp.seqA | apply Wp.skipS | apply Wp.blockS | ((first | apply Wp.regS | apply Wp.condV | apply Wp.reg | apply Wp.condW | apply fin_ret); simp -implicitDefEqProofs (maxSteps := 2000000) (disch := first | exact tt_rfl rfl | omega | (simp only [go_sem] <;> omega) | fail) only [go_sem, hl, hn, show ¬ (10 : Int) < t.pairs.length by omega, show ¬ (25 : Int) < x.l.length by omega, show ¬ (20 : Int) < x.l.length by omega, gt_iff_lt, o1, o2, c1, c2, c3, c4, c5, c6, c7] <;> try with_reducible rfl) | apply Wp.block | apply Wp.exitS | apply Wp.retS | apply Wp.exit | apply Wp.ret | apply Wp.skip)
      apply Wp.loopN x.l.length (fun i fr => ∃ late : Int, fr = ⟨[(2, .ptr 128 0 0), (3, .ptr 192 0 0), (7, .ptr 448 0 0), (8, iv (0)), (9, .ptr 576 0 0), (10, iv (ra)), (11, iv (re)), (12, iv (0)), (13, iv (late)), (14, iv i)], [(128, .box [iv t.rat, iv t.step, .list 2 (t.pairs.map PairT.av), iv t.round]), (192, .box [iv x.lo, iv x.hi, iv x.p, .list 3 (x.l.map NoteA.av)]), (448, .box [iv (sa), iv (sb)]), (576, .box [iv (rv.1), iv (rv.2)])], [], 10000000⟩ ∧ (late = 0 ∧ (∀ j (hj : j < x.l.length), j < i → x.l[j].Ok) ∨ late = 2 ∧ ¬ ∀ y ∈ x.l, y.Ok))
      · simp -implicitDefEqProofs (maxSteps := 2000000) (disch := first | exact tt_rfl rfl | omega | (simp only [go_sem] <;> omega) | fail) only [go_sem, norm_eq, Ok.some]
        exact ⟨0, rfl, .inl ⟨rfl, fun j hj h => by omega⟩⟩
      rintro i fr hi ⟨late, rfl, hlate⟩
      rcases hlate with ⟨rfl, hall⟩ | ⟨rfl, hbad⟩
      · by_cases hlt : i < x.l.length
        · have cn := refNote_ok x.l[i]
          by_cases hx : x.l[i].Ok
          · rw [decide_eq_true hx] at cn
            repeat (first | apply Wp.seqA | apply Wp.skipS | apply Wp.blockS | ((first | apply Wp.regS | apply Wp.condV | apply Wp.reg | apply Wp.condW | apply fin_ret); simp -implicitDefEqProofs (maxSteps := 2000000) (disch := first | exact tt_rfl rfl | omega | (simp only [go_sem] <;> omega) | fail) only [go_sem, hlt, Int.ofNat_lt, List.getElem?_map, List.getElem?_eq_getElem hlt, Option.map_some, NoteA.av.eq_1, cn] <;> try with_reducible rfl) | apply Wp.block | apply Wp.exitS | apply Wp.retS | apply Wp.exit | apply Wp.ret | apply Wp.skip)
            apply round_next (Q := fun _ _ => False)
            · simp -implicitDefEqProofs (maxSteps := 2000000) (disch := first | exact tt_rfl rfl | omega | (simp only [go_sem] <;> omega) | fail) only [go_sem, norm_eq, Ok.some]; with_reducible rfl
            refine ⟨hlt, 0, by simp, .inl ⟨rfl, fun j hj hji => ?_⟩⟩
            by_cases e : j = i
            · subst e; exact hx
            · exact hall j hj (by omega)
          · rw [decide_eq_false hx] at cn
            repeat (first | apply Wp.seqA | apply Wp.skipS | apply Wp.blockS | ((first | apply Wp.regS | apply Wp.condV | apply Wp.reg | apply Wp.condW | apply fin_ret); simp -implicitDefEqProofs (maxSteps := 2000000) (disch := first | exact tt_rfl rfl | omega | (simp only [go_sem] <;> omega) | fail) only [go_sem, hlt, Int.ofNat_lt, List.getElem?_map, List.getElem?_eq_getElem hlt, Option.map_some, NoteA.av.eq_1, cn] <;> try with_reducible rfl) | apply Wp.block | apply Wp.exitS | apply Wp.retS | apply Wp.exit | apply Wp.ret | apply Wp.skip)
            apply round_next (Q := fun _ _ => False)
            · simp -implicitDefEqProofs (maxSteps := 2000000) (disch := first | exact tt_rfl rfl | omega | (simp only [go_sem] <;> omega) | fail) only [go_sem, norm_eq, Ok.some]; with_reducible rfl
            exact ⟨hlt, 2, by simp, .inr ⟨rfl, fun h => hx (h _ (List.getElem_mem hlt))⟩⟩
        · obtain rfl : i = x.l.length := by omega
          have hok : ∀ y ∈ x.l, y.Ok := by
            intro y hy
            obtain ⟨j, hj, rfl⟩ := List.getElem_of_mem hy
            exact hall j hj hj
          rw [if_pos hok] at rE
          repeat (first | apply Wp.seqA | apply Wp.skipS | apply Wp.blockS | ((first | apply Wp.regS | apply Wp.condV | apply Wp.reg | apply Wp.condW | apply fin_ret); simp -implicitDefEqProofs (maxSteps := 2000000) (disch := first | exact tt_rfl rfl | omega | (simp only [go_sem] <;> omega) | fail) only [go_sem, Int.lt_irrefl, g1, g2, c8, kn, beq_self_eq_true, bne_self_eq_false] <;> try with_reducible rfl) | apply Wp.block | apply Wp.exitS | apply Wp.retS | apply Wp.exit | apply Wp.ret | apply Wp.skip)
          apply Wp.loopF (x.l.length + 1) (fun i => ⟨[(2, .ptr 128 0 0), (3, .ptr 192 0 0), (9, .ptr 576 0 0), (10, iv (ra)), (11, iv (re)), (15, iv i)], [(128, .box [iv t.rat, iv t.step, .list 2 (t.pairs.map PairT.av), iv t.round]), (192, .box [iv x.lo, iv x.hi, iv x.p, .list 3 (x.l.map NoteA.av)]), (576, .box [iv (rv.1), iv (rv.2)])], [], 10000000⟩) (fun i => i ≤ bd + 1)
          · simp -implicitDefEqProofs (maxSteps := 2000000) (disch := first | exact tt_rfl rfl | omega | (simp only [go_sem] <;> omega) | fail) only [go_sem, norm_eq, Ok.some]
            rfl
          · omega
          intro i hi hb
          by_cases hlt : i ≤ x.l.length
          · have hp := pre i hok (spanAt t (x.lo, x.hi) x.l i) rfl
            by_cases hne : (spanAt t (x.lo, x.hi) x.l i).1 ≤ (spanAt t (x.lo, x.hi) x.l i).2
            · rw [if_pos hne, if_pos hne, decide_eq_true hne] at hp
              have hib : i ≤ bd := by
                rcases Nat.lt_or_ge bd i with h | h
                · obtain rfl : i = bd + 1 := by omega
                  exact absurd hne (fyes (by omega))
                · exact h
              by_cases he : i = x.l.length
              · subst he
                rw [if_neg (by omega)] at rE
                subst rE
                obtain ⟨rfl, rfl⟩ := v0 rfl
                generalize spanAt t (x.lo, x.hi) x.l x.l.length = so at hp
                have hp2 := hp
                rw [List.take_of_length_le (by simp)] at hp2
                repeat (first | apply Wp.seqA | apply Wp.skipS | apply Wp.blockS | ((first | apply Wp.regS | apply Wp.condV | apply Wp.reg | apply Wp.condW | apply fin_ret); simp -implicitDefEqProofs (maxSteps := 2000000) (disch := first | exact tt_rfl rfl | omega | (simp only [go_sem] <;> omega) | fail) only [go_sem, show (x.l.length : Int) ≤ x.l.length by omega, show ((x.l.length : Int) - 0).toNat = x.l.length by omega, hp, hp2, beq_self_eq_true, bne_self_eq_false] <;> try with_reducible rfl) | apply Wp.block | apply Wp.exitS | apply Wp.retS | apply Wp.exit | apply Wp.ret | apply Wp.skip)
                apply round_next
                · simp -implicitDefEqProofs (maxSteps := 2000000) (disch := first | exact tt_rfl rfl | omega | (simp only [go_sem] <;> omega) | fail) only [go_sem, norm_eq, Ok.some]; with_reducible rfl
                exact ⟨by omega, by simp, by omega⟩
              · generalize spanAt t (x.lo, x.hi) x.l i = so at hp
                repeat (first | apply Wp.seqA | apply Wp.skipS | apply Wp.blockS | ((first | apply Wp.regS | apply Wp.condV | apply Wp.reg | apply Wp.condW | apply fin_ret); simp -implicitDefEqProofs (maxSteps := 2000000) (disch := first | exact tt_rfl rfl | omega | (simp only [go_sem] <;> omega) | fail) only [go_sem, show (i : Int) ≤ x.l.length by omega, show ((i : Int) - 0).toNat = i by omega, hp, show ¬ (i : Int) = x.l.length by omega, beq_self_eq_true, bne_self_eq_false] <;> try with_reducible rfl) | apply Wp.block | apply Wp.exitS | apply Wp.retS | apply Wp.exit | apply Wp.ret | apply Wp.skip)
                apply round_next
                · simp -implicitDefEqProofs (maxSteps := 2000000) (disch := first | exact tt_rfl rfl | omega | (simp only [go_sem] <;> omega) | fail) only [go_sem, norm_eq, Ok.some]; with_reducible rfl
                exact ⟨by omega, by simp, by omega⟩
            · rw [if_neg hne, if_neg hne, decide_eq_false hne] at hp
              have hib : i = bd + 1 := by
                match i, hb, hne with
                | 0, _, hne => exact absurd s00 hne
                | j + 1, hb, hne =>
                  rcases Nat.lt_or_ge j bd with h | h
                  · exact absurd (fno j h) hne
                  · omega
              rw [if_pos (by omega)] at rE
              subst rE
              obtain ⟨rfl, h9⟩ := v9 rfl
              obtain rfl : ra = (i : Int) - 1 := by omega
              repeat (first | apply Wp.seqA | apply Wp.skipS | apply Wp.blockS | ((first | apply Wp.regS | apply Wp.condV | apply Wp.reg | apply Wp.condW | apply fin_ret); simp -implicitDefEqProofs (maxSteps := 2000000) (disch := first | exact tt_rfl rfl | omega | (simp only [go_sem] <;> omega) | fail) only [go_sem, show (i : Int) ≤ x.l.length by omega, show ((i : Int) - 0).toNat = i by omega, hp, kn, beq_self_eq_true, bne_self_eq_false] <;> try with_reducible rfl) | apply Wp.block | apply Wp.exitS | apply Wp.retS | apply Wp.exit | apply Wp.ret | apply Wp.skip)
          · repeat (first | apply Wp.seqA | apply Wp.skipS | apply Wp.blockS | ((first | apply Wp.regS | apply Wp.condV | apply Wp.reg | apply Wp.condW | apply fin_ret); simp -implicitDefEqProofs (maxSteps := 2000000) (disch := first | exact tt_rfl rfl | omega | (simp only [go_sem] <;> omega) | fail) only [go_sem, show ¬ (i : Int) ≤ x.l.length by omega, kn] <;> try with_reducible rfl) | apply Wp.block | apply Wp.exitS | apply Wp.retS | apply Wp.exit | apply Wp.ret | apply Wp.skip)
      · rw [if_neg hbad] at rE
        subst rE
        obtain ⟨rfl, rfl⟩ := v2 rfl
        by_cases hlt : i < x.l.length
        · repeat (first | apply Wp.seqA | apply Wp.skipS | apply Wp.blockS | ((first | apply Wp.regS | apply Wp.condV | apply Wp.reg | apply Wp.condW | apply fin_ret); simp -implicitDefEqProofs (maxSteps := 2000000) (disch := first | exact tt_rfl rfl | omega | (simp only [go_sem] <;> omega) | fail) only [go_sem, hlt, Int.ofNat_lt, g1, g2, c8, kn, beq_self_eq_true, bne_self_eq_false] <;> try with_reducible rfl) | apply Wp.block | apply Wp.exitS | apply Wp.retS | apply Wp.exit | apply Wp.ret | apply Wp.skip)
        · repeat (first | apply Wp.seqA | apply Wp.skipS | apply Wp.blockS | ((first | apply Wp.regS | apply Wp.condV | apply Wp.reg | apply Wp.condW | apply fin_ret); simp -implicitDefEqProofs (maxSteps := 2000000) (disch := first | exact tt_rfl rfl | omega | (simp only [go_sem] <;> omega) | fail) only [go_sem, hlt, Int.ofNat_lt, g1, g2, c8, kn, beq_self_eq_true, bne_self_eq_false] <;> try with_reducible rfl) | apply Wp.block | apply Wp.exitS | apply Wp.retS | apply Wp.exit | apply Wp.ret | apply Wp.skip)
  · obtain ⟨rfl, rfl⟩ := z (by omega)
    clear g1 g2
    by_cases h20 : 20 < x.l.length
    · have hR : relE t (x.lo, x.hi) x.l = 5 := by unfold relE; rw [if_pos hc, if_pos hs, if_pos h20]
      unfold relV relAt at c2
      rw [hR, if_neg (by omega), if_neg (by omega)] at c2
      unfold TakeA.av ClothA.av at *
      refine lim_by (fn := a5) (k := 2) (res := [.tmp 4]) rfl rfl rfl (by simp -implicitDefEqProofs (maxSteps := 2000000) (disch := first | exact tt_rfl rfl | omega | (simp only [go_sem] <;> omega) | fail) only [go_sem]) ?_
      simp -implicitDefEqProofs (maxSteps := 2000000) (disch := first | exact tt_rfl rfl | omega | (simp only [go_sem] <;> omega) | fail) only [go_sem]
      repeat (first | apply Wp.seqA | apply Wp.skipS | apply Wp.blockS | ((first | apply Wp.regS | apply Wp.condV | apply Wp.reg | apply Wp.condW | apply fin_ret); simp -implicitDefEqProofs (maxSteps := 2000000) (disch := first | exact tt_rfl rfl | omega | (simp only [go_sem] <;> omega) | fail) only [go_sem, hl, hn, show ¬ (10 : Int) < t.pairs.length by omega, show ¬ (25 : Int) < x.l.length by omega, show (20 : Int) < x.l.length by omega, gt_iff_lt, o1, o2, c1, c2, c3, c4, c5, c6, c7] <;> try with_reducible rfl) | apply Wp.block | apply Wp.exitS | apply Wp.retS | apply Wp.exit | apply Wp.ret | apply Wp.skip)
      apply Wp.loopF 0 (fun i => ⟨[(2, .ptr 128 0 0), (3, .ptr 192 0 0), (7, .ptr 448 0 0), (8, iv (3)), (9, .ptr 576 0 0), (10, iv (0)), (11, iv (5)), (12, iv (3)), (13, iv (5)), (14, iv i)], [(128, .box [iv t.rat, iv t.step, .list 2 (t.pairs.map PairT.av), iv t.round]), (192, .box [iv x.lo, iv x.hi, iv x.p, .list 3 (x.l.map NoteA.av)]), (448, .box [iv (0), iv (0)]), (576, .box [iv (0), iv (0)])], [], 10000000⟩) (fun _ => True)
      · simp -implicitDefEqProofs (maxSteps := 2000000) (disch := first | exact tt_rfl rfl | omega | (simp only [go_sem] <;> omega) | fail) only [go_sem, norm_eq, Ok.some]
        rfl
      · trivial
      intro i hi _
      obtain rfl : i = 0 := by omega
      by_cases hz : 0 < x.l.length
      · repeat (first | apply Wp.seqA | apply Wp.skipS | apply Wp.blockS | ((first | apply Wp.regS | apply Wp.condV | apply Wp.reg | apply Wp.condW | apply fin_ret); simp -implicitDefEqProofs (maxSteps := 2000000) (disch := first | exact tt_rfl rfl | omega | (simp only [go_sem] <;> omega) | fail) only [go_sem, show ((0 : Nat) : Int) < x.l.length by omega, kn, kn, beq_self_eq_true, bne_self_eq_false] <;> try with_reducible rfl) | apply Wp.block | apply Wp.exitS | apply Wp.retS | apply Wp.exit | apply Wp.ret | apply Wp.skip)
      · repeat (first | apply Wp.seqA | apply Wp.skipS | apply Wp.blockS | ((first | apply Wp.regS | apply Wp.condV | apply Wp.reg | apply Wp.condW | apply fin_ret); simp -implicitDefEqProofs (maxSteps := 2000000) (disch := first | exact tt_rfl rfl | omega | (simp only [go_sem] <;> omega) | fail) only [go_sem, show ¬ ((0 : Nat) : Int) < x.l.length by omega, kn, kn, beq_self_eq_true, bne_self_eq_false] <;> try with_reducible rfl) | apply Wp.block | apply Wp.exitS | apply Wp.retS | apply Wp.exit | apply Wp.ret | apply Wp.skip)
    · have rE : relE t (x.lo, x.hi) x.l = if ∀ y ∈ x.l, y.Ok then if badAt t (x.lo, x.hi) x.l < x.l.length then 9 else 0 else 2 := by unfold relE; rw [if_pos hc, if_pos hs, if_neg h20]
      have v2 : relE t (x.lo, x.hi) x.l = 2 → relV t (x.lo, x.hi) x.l = (0, 0) ∧ relAt t (x.lo, x.hi) x.l = 0 := by intro h; unfold relV relAt; rw [h, if_neg (by omega), if_neg (by omega)]; exact ⟨rfl, rfl⟩
      have v9 : relE t (x.lo, x.hi) x.l = 9 → relV t (x.lo, x.hi) x.l = (0, 0) ∧ relAt t (x.lo, x.hi) x.l = badAt t (x.lo, x.hi) x.l := by intro h; unfold relV relAt; rw [h, if_neg (by omega), if_pos rfl]; exact ⟨rfl, rfl⟩
      have v0 : relE t (x.lo, x.hi) x.l = 0 → relV t (x.lo, x.hi) x.l = spanAt t (x.lo, x.hi) x.l x.l.length ∧ relAt t (x.lo, x.hi) x.l = 0 := by intro h; unfold relV relAt; rw [h, if_pos rfl, if_neg (by omega)]; exact ⟨rfl, rfl⟩
      have fno : ∀ j, j < badAt t (x.lo, x.hi) x.l → (spanAt t (x.lo, x.hi) x.l (j + 1)).1 ≤ (spanAt t (x.lo, x.hi) x.l (j + 1)).2 := by
        intro j hj
        have := firstP_no hj
        rw [decide_eq_false_iff_not] at this
        omega
      have fyes : badAt t (x.lo, x.hi) x.l < x.l.length → ¬ (spanAt t (x.lo, x.hi) x.l (badAt t (x.lo, x.hi) x.l + 1)).1 ≤ (spanAt t (x.lo, x.hi) x.l (badAt t (x.lo, x.hi) x.l + 1)).2 := by
        intro hj
        have := firstP_yes hj
        rw [decide_eq_true_eq] at this
        change (spanAt t (x.lo, x.hi) x.l (badAt t (x.lo, x.hi) x.l + 1)).2 < (spanAt t (x.lo, x.hi) x.l (badAt t (x.lo, x.hi) x.l + 1)).1 at this
        omega
      have s00 : (spanAt t (x.lo, x.hi) x.l 0).1 ≤ (spanAt t (x.lo, x.hi) x.l 0).2 := hs.2.1
      generalize badAt t (x.lo, x.hi) x.l = bd at *
      generalize relE t (x.lo, x.hi) x.l = re at *
      generalize relV t (x.lo, x.hi) x.l = rv at *
      generalize relAt t (x.lo, x.hi) x.l = ra at *
      unfold TakeA.av ClothA.av at *
      refine lim_by (fn := a5) (k := 2) (res := [.tmp 4]) rfl rfl rfl (by simp -implicitDefEqProofs (maxSteps := 2000000) (disch := first | exact tt_rfl rfl | omega | (simp only [go_sem] <;> omega) | fail) only [go_sem]) ?_
      simp -implicitDefEqProofs (maxSteps := 2000000) (disch := first | exact tt_rfl rfl | omega | (simp only [go_sem] <;> omega) | fail) only [go_sem]
      repeat (first | apply Wp.seqA | apply Wp.skipS | apply Wp.blockS | ((first | apply Wp.regS | apply Wp.condV | apply Wp.reg | apply Wp.condW | apply fin_ret); simp -implicitDefEqProofs (maxSteps := 2000000) (disch := first | exact tt_rfl rfl | omega | (simp only [go_sem] <;> omega) | fail) only [go_sem, hl, hn, show ¬ (10 : Int) < t.pairs.length by omega, show ¬ (25 : Int) < x.l.length by omega, show ¬ (20 : Int) < x.l.length by omega, gt_iff_lt, o1, o2, c1, c2, c3, c4, c5, c6, c7] <;> try with_reducible rfl) | apply Wp.block | apply Wp.exitS | apply Wp.retS | apply Wp.exit | apply Wp.ret | apply Wp.skip)
      apply Wp.loopN x.l.length (fun i fr => ∃ late : Int, fr = ⟨[(2, .ptr 128 0 0), (3, .ptr 192 0 0), (7, .ptr 448 0 0), (8, iv (3)), (9, .ptr 576 0 0), (10, iv (ra)), (11, iv (re)), (12, iv (3)), (13, iv (late)), (14, iv i)], [(128, .box [iv t.rat, iv t.step, .list 2 (t.pairs.map PairT.av), iv t.round]), (192, .box [iv x.lo, iv x.hi, iv x.p, .list 3 (x.l.map NoteA.av)]), (448, .box [iv (0), iv (0)]), (576, .box [iv (rv.1), iv (rv.2)])], [], 10000000⟩ ∧ (late = 0 ∧ (∀ j (hj : j < x.l.length), j < i → x.l[j].Ok) ∨ late = 2 ∧ ¬ ∀ y ∈ x.l, y.Ok))
      · simp -implicitDefEqProofs (maxSteps := 2000000) (disch := first | exact tt_rfl rfl | omega | (simp only [go_sem] <;> omega) | fail) only [go_sem, norm_eq, Ok.some]
        exact ⟨0, rfl, .inl ⟨rfl, fun j hj h => by omega⟩⟩
      rintro i fr hi ⟨late, rfl, hlate⟩
      rcases hlate with ⟨rfl, hall⟩ | ⟨rfl, hbad⟩
      · by_cases hlt : i < x.l.length
        · have cn := refNote_ok x.l[i]
          by_cases hx : x.l[i].Ok
          · rw [decide_eq_true hx] at cn
            repeat (first | apply Wp.seqA | apply Wp.skipS | apply Wp.blockS | ((first | apply Wp.regS | apply Wp.condV | apply Wp.reg | apply Wp.condW | apply fin_ret); simp -implicitDefEqProofs (maxSteps := 2000000) (disch := first | exact tt_rfl rfl | omega | (simp only [go_sem] <;> omega) | fail) only [go_sem, hlt, Int.ofNat_lt, List.getElem?_map, List.getElem?_eq_getElem hlt, Option.map_some, NoteA.av.eq_1, cn] <;> try with_reducible rfl) | apply Wp.block | apply Wp.exitS | apply Wp.retS | apply Wp.exit | apply Wp.ret | apply Wp.skip)
            apply round_next (Q := fun _ _ => False)
            · simp -implicitDefEqProofs (maxSteps := 2000000) (disch := first | exact tt_rfl rfl | omega | (simp only [go_sem] <;> omega) | fail) only [go_sem, norm_eq, Ok.some]; with_reducible rfl
            refine ⟨hlt, 0, by simp, .inl ⟨rfl, fun j hj hji => ?_⟩⟩
            by_cases e : j = i
            · subst e; exact hx
            · exact hall j hj (by omega)
          · rw [decide_eq_false hx] at cn
            repeat (first | apply Wp.seqA | apply Wp.skipS | apply Wp.blockS | ((first | apply Wp.regS | apply Wp.condV | apply Wp.reg | apply Wp.condW | apply fin_ret); simp -implicitDefEqProofs (maxSteps := 2000000) (disch := first | exact tt_rfl rfl | omega | (simp only [go_sem] <;> omega) | fail) only [go_sem, hlt, Int.ofNat_lt, List.getElem?_map, List.getElem?_eq_getElem hlt, Option.map_some, NoteA.av.eq_1, cn] <;> try with_reducible rfl) | apply Wp.block | apply Wp.exitS | apply Wp.retS | apply Wp.exit | apply Wp.ret | apply Wp.skip)
            apply round_next (Q := fun _ _ => False)
            · simp -implicitDefEqProofs (maxSteps := 2000000) (disch := first | exact tt_rfl rfl | omega | (simp only [go_sem] <;> omega) | fail) only [go_sem, norm_eq, Ok.some]; with_reducible rfl
            exact ⟨hlt, 2, by simp, .inr ⟨rfl, fun h => hx (h _ (List.getElem_mem hlt))⟩⟩
        · obtain rfl : i = x.l.length := by omega
          have hok : ∀ y ∈ x.l, y.Ok := by
            intro y hy
            obtain ⟨j, hj, rfl⟩ := List.getElem_of_mem hy
            exact hall j hj hj
          rw [if_pos hok] at rE
          repeat (first | apply Wp.seqA | apply Wp.skipS | apply Wp.blockS | ((first | apply Wp.regS | apply Wp.condV | apply Wp.reg | apply Wp.condW | apply fin_ret); simp -implicitDefEqProofs (maxSteps := 2000000) (disch := first | exact tt_rfl rfl | omega | (simp only [go_sem] <;> omega) | fail) only [go_sem, Int.lt_irrefl, kn, kn, beq_self_eq_true, bne_self_eq_false] <;> try with_reducible rfl) | apply Wp.block | apply Wp.exitS | apply Wp.retS | apply Wp.exit | apply Wp.ret | apply Wp.skip)
          apply Wp.loopF (x.l.length + 1) (fun i => ⟨[(2, .ptr 128 0 0), (3, .ptr 192 0 0), (9, .ptr 576 0 0), (10, iv (ra)), (11, iv (re)), (15, iv i)], [(128, .box [iv t.rat, iv t.step, .list 2 (t.pairs.map PairT.av), iv t.round]), (192, .box [iv x.lo, iv x.hi, iv x.p, .list 3 (x.l.map NoteA.av)]), (576, .box [iv (rv.1), iv (rv.2)])], [], 10000000⟩) (fun i => i ≤ bd + 1)
          · simp -implicitDefEqProofs (maxSteps := 2000000) (disch := first | exact tt_rfl rfl | omega | (simp only [go_sem] <;> omega) | fail) only [go_sem, norm_eq, Ok.some]
            rfl
          · omega
          intro i hi hb
          by_cases hlt : i ≤ x.l.length
          · have hp := pre i hok (spanAt t (x.lo, x.hi) x.l i) rfl
            by_cases hne : (spanAt t (x.lo, x.hi) x.l i).1 ≤ (spanAt t (x.lo, x.hi) x.l i).2
            · rw [if_pos hne, if_pos hne, decide_eq_true hne] at hp
              have hib : i ≤ bd := by
                rcases Nat.lt_or_ge bd i with h | h
                · obtain rfl : i = bd + 1 := by omega
                  exact absurd hne (fyes (by omega))
                · exact h
              by_cases he : i = x.l.length
              · subst he
                rw [if_neg (by omega)] at rE
                subst rE
                obtain ⟨rfl, rfl⟩ := v0 rfl
                generalize spanAt t (x.lo, x.hi) x.l x.l.length = so at hp
                have hp2 := hp
                rw [List.take_of_length_le (by simp)] at hp2
                repeat (first | apply Wp.seqA | apply Wp.skipS | apply Wp.blockS | ((first | apply Wp.regS | apply Wp.condV | apply Wp.reg | apply Wp.condW | apply fin_ret); simp -implicitDefEqProofs (maxSteps := 2000000) (disch := first | exact tt_rfl rfl | omega | (simp only [go_sem] <;> omega) | fail) only [go_sem, show (x.l.length : Int) ≤ x.l.length by omega, show ((x.l.length : Int) - 0).toNat = x.l.length by omega, hp, hp2, beq_self_eq_true, bne_self_eq_false] <;> try with_reducible rfl) | apply Wp.block | apply Wp.exitS | apply Wp.retS | apply Wp.exit | apply Wp.ret | apply Wp.skip)
                apply round_next
                · simp -implicitDefEqProofs (maxSteps := 2000000) (disch := first | exact tt_rfl rfl | omega | (simp only [go_sem] <;> omega) | fail) only [go_sem, norm_eq, Ok.some]; with_reducible rfl
                exact ⟨by omega, by simp, by omega⟩
              · generalize spanAt t (x.lo, x.hi) x.l i = so at hp
                repeat (first | apply Wp.seqA | apply Wp.skipS | apply Wp.blockS | ((first | apply Wp.regS | apply Wp.condV | apply Wp.reg | apply Wp.condW | apply fin_ret); simp -implicitDefEqProofs (maxSteps := 2000000) (disch := first | exact tt_rfl rfl | omega | (simp only [go_sem] <;> omega) | fail) only [go_sem, show (i : Int) ≤ x.l.length by omega, show ((i : Int) - 0).toNat = i by omega, hp, show ¬ (i : Int) = x.l.length by omega, beq_self_eq_true, bne_self_eq_false] <;> try with_reducible rfl) | apply Wp.block | apply Wp.exitS | apply Wp.retS | apply Wp.exit | apply Wp.ret | apply Wp.skip)
                apply round_next
                · simp -implicitDefEqProofs (maxSteps := 2000000) (disch := first | exact tt_rfl rfl | omega | (simp only [go_sem] <;> omega) | fail) only [go_sem, norm_eq, Ok.some]; with_reducible rfl
                exact ⟨by omega, by simp, by omega⟩
            · rw [if_neg hne, if_neg hne, decide_eq_false hne] at hp
              have hib : i = bd + 1 := by
                match i, hb, hne with
                | 0, _, hne => exact absurd s00 hne
                | j + 1, hb, hne =>
                  rcases Nat.lt_or_ge j bd with h | h
                  · exact absurd (fno j h) hne
                  · omega
              rw [if_pos (by omega)] at rE
              subst rE
              obtain ⟨rfl, h9⟩ := v9 rfl
              obtain rfl : ra = (i : Int) - 1 := by omega
              repeat (first | apply Wp.seqA | apply Wp.skipS | apply Wp.blockS | ((first | apply Wp.regS | apply Wp.condV | apply Wp.reg | apply Wp.condW | apply fin_ret); simp -implicitDefEqProofs (maxSteps := 2000000) (disch := first | exact tt_rfl rfl | omega | (simp only [go_sem] <;> omega) | fail) only [go_sem, show (i : Int) ≤ x.l.length by omega, show ((i : Int) - 0).toNat = i by omega, hp, kn, beq_self_eq_true, bne_self_eq_false] <;> try with_reducible rfl) | apply Wp.block | apply Wp.exitS | apply Wp.retS | apply Wp.exit | apply Wp.ret | apply Wp.skip)
          · repeat (first | apply Wp.seqA | apply Wp.skipS | apply Wp.blockS | ((first | apply Wp.regS | apply Wp.condV | apply Wp.reg | apply Wp.condW | apply fin_ret); simp -implicitDefEqProofs (maxSteps := 2000000) (disch := first | exact tt_rfl rfl | omega | (simp only [go_sem] <;> omega) | fail) only [go_sem, show ¬ (i : Int) ≤ x.l.length by omega, kn] <;> try with_reducible rfl) | apply Wp.block | apply Wp.exitS | apply Wp.retS | apply Wp.exit | apply Wp.ret | apply Wp.skip)
      · rw [if_neg hbad] at rE
        subst rE
        obtain ⟨rfl, rfl⟩ := v2 rfl
        by_cases hlt : i < x.l.length
        · repeat (first | apply Wp.seqA | apply Wp.skipS | apply Wp.blockS | ((first | apply Wp.regS | apply Wp.condV | apply Wp.reg | apply Wp.condW | apply fin_ret); simp -implicitDefEqProofs (maxSteps := 2000000) (disch := first | exact tt_rfl rfl | omega | (simp only [go_sem] <;> omega) | fail) only [go_sem, hlt, Int.ofNat_lt, kn, kn, beq_self_eq_true, bne_self_eq_false] <;> try with_reducible rfl) | apply Wp.block | apply Wp.exitS | apply Wp.retS | apply Wp.exit | apply Wp.ret | apply Wp.skip)
        · repeat (first | apply Wp.seqA | apply Wp.skipS | apply Wp.blockS | ((first | apply Wp.regS | apply Wp.condV | apply Wp.reg | apply Wp.condW | apply fin_ret); simp -implicitDefEqProofs (maxSteps := 2000000) (disch := first | exact tt_rfl rfl | omega | (simp only [go_sem] <;> omega) | fail) only [go_sem, hlt, Int.ofNat_lt, kn, kn, beq_self_eq_true, bne_self_eq_false] <;> try with_reducible rfl) | apply Wp.block | apply Wp.exitS | apply Wp.retS | apply Wp.exit | apply Wp.ret | apply Wp.skip)

theorem beamFigures_ok (t : TakeA) (x : ClothA) : lim F 5 [t.av, x.av] = some (.bool true, []) := by
  have kn := known_ok
  by_cases hl : 10 < t.pairs.length
  · unfold TakeA.av ClothA.av
    refine lim_by (fn := a5) (k := 2) (res := [.tmp 4]) rfl rfl rfl (by simp -implicitDefEqProofs (maxSteps := 2000000) (disch := first | exact tt_rfl rfl | omega | (simp only [go_sem] <;> omega) | fail) only [go_sem]) ?_
    simp -implicitDefEqProofs (maxSteps := 2000000) (disch := first | exact tt_rfl rfl | omega | (simp only [go_sem] <;> omega) | fail) only [go_sem]
    repeat (first | apply Wp.seqA | apply Wp.skipS | apply Wp.blockS | ((first | apply Wp.regS | apply Wp.condV | apply Wp.reg | apply Wp.condW | apply fin_ret); simp -implicitDefEqProofs (maxSteps := 2000000) (disch := first | exact tt_rfl rfl | omega | (simp only [go_sem] <;> omega) | fail) only [go_sem, hl, show (10 : Int) < t.pairs.length by omega, kn] <;> try with_reducible rfl) | apply Wp.block | apply Wp.exitS | apply Wp.retS | apply Wp.exit | apply Wp.ret | apply Wp.skip)
  by_cases hn : 25 < x.l.length
  · unfold TakeA.av ClothA.av
    refine lim_by (fn := a5) (k := 2) (res := [.tmp 4]) rfl rfl rfl (by simp -implicitDefEqProofs (maxSteps := 2000000) (disch := first | exact tt_rfl rfl | omega | (simp only [go_sem] <;> omega) | fail) only [go_sem]) ?_
    simp -implicitDefEqProofs (maxSteps := 2000000) (disch := first | exact tt_rfl rfl | omega | (simp only [go_sem] <;> omega) | fail) only [go_sem]
    repeat (first | apply Wp.seqA | apply Wp.skipS | apply Wp.blockS | ((first | apply Wp.regS | apply Wp.condV | apply Wp.reg | apply Wp.condW | apply fin_ret); simp -implicitDefEqProofs (maxSteps := 2000000) (disch := first | exact tt_rfl rfl | omega | (simp only [go_sem] <;> omega) | fail) only [go_sem, hl, hn, show ¬ (10 : Int) < t.pairs.length by omega, show (25 : Int) < x.l.length by omega, kn] <;> try with_reducible rfl) | apply Wp.block | apply Wp.exitS | apply Wp.retS | apply Wp.exit | apply Wp.ret | apply Wp.skip)
  by_cases hc : checkT t = 0
  · by_cases hs : SpanOk x.lo x.hi 0 200
    · have c1 := Figure_ok t x.lo x.hi x.p
      have c7 := refIn_ok x.p 1 100000
      by_cases hp : 1 ≤ x.p ∧ x.p ≤ 100000
      · have e : figE t x.lo x.hi x.p = 0 := by unfold figE; rw [if_pos hc, if_pos hs, if_pos hp]
        rw [e, if_pos rfl, if_pos rfl] at c1
        rw [decide_eq_true hp] at c7
        exact figures_go t x hl hn hc hs 0 _ _ (.inl rfl) c1 (by rw [c7]; rfl) (fun h => absurd rfl h) (fun _ => refLong_ok t x.p x.hi hc (by omega) (by omega) (by omega) (by omega)) (fun _ => refLong_ok t x.p x.lo hc (by omega) (by omega) (by omega) (by omega))
      · have e : figE t x.lo x.hi x.p = 3 := by unfold figE; rw [if_pos hc, if_pos hs, if_neg hp]
        rw [e, if_neg (by omega), if_neg (by omega)] at c1
        rw [decide_eq_false hp] at c7
        exact figures_go t x hl hn hc hs 3 _ _ (.inr rfl) c1 (by rw [c7]; rfl) (fun _ => ⟨rfl, rfl⟩) (fun h => by omega) (fun h => by omega)
    · exact figures_end t x hl hn 2 (.inl rfl) (by unfold figE; rw [if_pos hc, if_neg hs]) (by unfold relE; rw [if_pos hc, if_neg hs]) (.inr ⟨hc, rfl, hs⟩)
  · exact figures_end t x hl hn (checkT t) ((checkT_vals t).resolve_left hc) (by unfold figE; rw [if_neg hc]) (by unfold relE; rw [if_neg hc]) (.inl rfl)
end Go.Abs
