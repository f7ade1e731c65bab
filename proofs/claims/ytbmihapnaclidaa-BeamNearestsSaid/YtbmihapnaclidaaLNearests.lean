/-
  BeamNearests: what it looks at is so, for every take-up, every shop, all ratios and numbers of pairs.
-/
import Derived.Test.YtbmihapnaclidaaN8
import Derived.Test.YtbmihapnaclidaaKnown
set_option linter.all false
namespace Go.Abs
set_option maxRecDepth 10000
set_option maxHeartbeats 8000000

structure ShopA where
  ws : List Int
  wn : Int
  wd : Int
  p : Int
def ShopA.av (x : ShopA) : AV := .agg [.list 1 (x.ws.map fun n => iv n), iv x.wn, iv x.wd, iv x.p]
theorem nInts_ok (l : List Int) (hl : l.length < 1000000) : lim F 23 [.list 1 (l.map fun n => iv n)] = some (.own 1 (l.map fun n => iv n), []) := by
  refine lim_by (fn := a23) (k := 1) (res := [.tmp 2]) rfl rfl rfl (by simp -implicitDefEqProofs (maxSteps := 2000000) (disch := first | exact tt_rfl rfl | omega | (simp only [go_sem] <;> omega) | fail) only [go_sem]) ?_
  simp -implicitDefEqProofs (maxSteps := 2000000) (disch := first | exact tt_rfl rfl | omega | (simp only [go_sem] <;> omega) | fail) only [go_sem]
  repeat (first | apply Wp.seqA | apply Wp.skipS | apply Wp.blockS | ((first | apply Wp.regS | apply Wp.condV | apply Wp.reg | apply Wp.condW | apply fin_ret); simp -implicitDefEqProofs (maxSteps := 2000000) (disch := first | exact tt_rfl rfl | omega | (simp only [go_sem] <;> omega) | fail) only [go_sem] <;> try with_reducible rfl) | apply Wp.block | apply Wp.exitS | apply Wp.retS | apply Wp.exit | apply Wp.ret | apply Wp.skip)
theorem nRefInts_ok (l : List Int) (hl : l.length < 1000000) : lim F 25 [.list 1 (l.map fun n => iv n), .list 1 (l.map fun n => iv n)] = some (.bool true, []) := by
  refine lim_by (fn := a25) (k := 2) (res := [.tmp 4]) rfl rfl rfl (by simp -implicitDefEqProofs (maxSteps := 2000000) (disch := first | exact tt_rfl rfl | omega | (simp only [go_sem] <;> omega) | fail) only [go_sem]) ?_
  simp -implicitDefEqProofs (maxSteps := 2000000) (disch := first | exact tt_rfl rfl | omega | (simp only [go_sem] <;> omega) | fail) only [go_sem]
  repeat (first | apply Wp.seqA | apply Wp.skipS | apply Wp.blockS | ((first | apply Wp.regS | apply Wp.condV | apply Wp.reg | apply Wp.condW | apply fin_ret); simp -implicitDefEqProofs (maxSteps := 2000000) (disch := first | exact tt_rfl rfl | omega | (simp only [go_sem] <;> omega) | fail) only [go_sem] <;> try with_reducible rfl) | apply Wp.block | apply Wp.exitS | apply Wp.retS | apply Wp.exit | apply Wp.ret | apply Wp.skip)
  apply Wp.loopF l.length (fun i => ⟨[(0, .list 1 (l.map fun n => iv n)), (1, .list 1 (l.map fun n => iv n)), (5, iv i)], [], [], 10000000⟩) (fun _ => True)
  · simp -implicitDefEqProofs (maxSteps := 2000000) (disch := first | exact tt_rfl rfl | omega | (simp only [go_sem] <;> omega) | fail) only [go_sem, norm_eq, Ok.some]
    rfl
  · trivial
  intro i hi _
  by_cases hlt : i < l.length
  · repeat (first | apply Wp.seqA | apply Wp.skipS | apply Wp.blockS | ((first | apply Wp.regS | apply Wp.condV | apply Wp.reg | apply Wp.condW | apply fin_ret); simp -implicitDefEqProofs (maxSteps := 2000000) (disch := first | exact tt_rfl rfl | omega | (simp only [go_sem] <;> omega) | fail) only [go_sem, hlt, Int.ofNat_lt, List.getElem?_map, List.getElem?_eq_getElem hlt, Option.map_some, bne_self_eq_false, beq_self_eq_true] <;> try with_reducible rfl) | apply Wp.block | apply Wp.exitS | apply Wp.retS | apply Wp.exit | apply Wp.ret | apply Wp.skip)
    apply round_next
    · simp -implicitDefEqProofs (maxSteps := 2000000) (disch := first | exact tt_rfl rfl | omega | (simp only [go_sem] <;> omega) | fail) only [go_sem, norm_eq, Ok.some]; with_reducible rfl
    exact ⟨hlt, by simp, trivial⟩
  · repeat (first | apply Wp.seqA | apply Wp.skipS | apply Wp.blockS | ((first | apply Wp.regS | apply Wp.condV | apply Wp.reg | apply Wp.condW | apply fin_ret); simp -implicitDefEqProofs (maxSteps := 2000000) (disch := first | exact tt_rfl rfl | omega | (simp only [go_sem] <;> omega) | fail) only [go_sem, hlt, Int.ofNat_lt] <;> try with_reducible rfl) | apply Wp.block | apply Wp.exitS | apply Wp.retS | apply Wp.exit | apply Wp.ret | apply Wp.skip)
theorem nearests_long (t : TakeA) (x : ShopA) (h : 10 < t.pairs.length ∨ 12 < x.ws.length) : lim F 4 [t.av, x.av] = some (.bool true, []) := by
  have kn := known_ok
  have hsl : (x.ws.map fun n => iv n).length = x.ws.length := by simp
  unfold TakeA.av ShopA.av
  by_cases h1 : 10 < t.pairs.length
  · refine lim_by (fn := a4) (k := 2) (res := [.tmp 4]) rfl rfl rfl (by simp -implicitDefEqProofs (maxSteps := 2000000) (disch := first | exact tt_rfl rfl | omega | (simp only [go_sem] <;> omega) | fail) only [go_sem]) ?_
    simp -implicitDefEqProofs (maxSteps := 2000000) (disch := first | exact tt_rfl rfl | omega | (simp only [go_sem] <;> omega) | fail) only [go_sem]
    repeat (first | apply Wp.seqA | apply Wp.skipS | apply Wp.blockS | ((first | apply Wp.regS | apply Wp.condV | apply Wp.reg | apply Wp.condW | apply fin_ret); simp -implicitDefEqProofs (maxSteps := 2000000) (disch := first | exact tt_rfl rfl | omega | (simp only [go_sem] <;> omega) | fail) only [go_sem, show (10 : Int) < t.pairs.length by omega, gt_iff_lt, kn] <;> try with_reducible rfl) | apply Wp.block | apply Wp.exitS | apply Wp.retS | apply Wp.exit | apply Wp.ret | apply Wp.skip)
  · refine lim_by (fn := a4) (k := 2) (res := [.tmp 4]) rfl rfl rfl (by simp -implicitDefEqProofs (maxSteps := 2000000) (disch := first | exact tt_rfl rfl | omega | (simp only [go_sem] <;> omega) | fail) only [go_sem]) ?_
    simp -implicitDefEqProofs (maxSteps := 2000000) (disch := first | exact tt_rfl rfl | omega | (simp only [go_sem] <;> omega) | fail) only [go_sem]
    repeat (first | apply Wp.seqA | apply Wp.skipS | apply Wp.blockS | ((first | apply Wp.regS | apply Wp.condV | apply Wp.reg | apply Wp.condW | apply fin_ret); simp -implicitDefEqProofs (maxSteps := 2000000) (disch := first | exact tt_rfl rfl | omega | (simp only [go_sem] <;> omega) | fail) only [go_sem, show ¬ (10 : Int) < t.pairs.length by omega, hsl, show (12 : Int) < x.ws.length by omega, gt_iff_lt, kn] <;> try with_reducible rfl) | apply Wp.block | apply Wp.exitS | apply Wp.retS | apply Wp.exit | apply Wp.ret | apply Wp.skip)
theorem nearests_ab (t : TakeA) (x : ShopA) (hl : ¬ 10 < t.pairs.length) (hn : ¬ 12 < x.ws.length) (code : Int) (hcode : code = 2 ∨ code = 5) (hE : nearE t x.ws x.wn x.wd x.p = code) (hh : checkT t = code ∨ checkT t = 0 ∧ code = 5 ∧ 8 < x.ws.length) : lim F 4 [t.av, x.av] = some (.bool true, []) := by
  have kn := known_ok
  have o1 := own_ok t (by omega)
  have o2 := nInts_ok x.ws (by omega)
  have c1 := Nearest_err t x.ws x.wn x.wd x.p (by omega) (by omega)
  rw [hE] at c1
  have c3 := Same_ok t (by omega)
  have c4 := nRefInts_ok x.ws (by omega)
  have c5 := refCheck_ok t
  have hsl : (x.ws.map fun n => iv n).length = x.ws.length := by simp
  unfold TakeA.av ShopA.av at *
  rcases hh with hc | ⟨hc, rfl, hs⟩
  · rw [hc] at c5
    rcases hcode with rfl | rfl
    · refine lim_by (fn := a4) (k := 2) (res := [.tmp 4]) rfl rfl rfl (by simp -implicitDefEqProofs (maxSteps := 2000000) (disch := first | exact tt_rfl rfl | omega | (simp only [go_sem] <;> omega) | fail) only [go_sem]) ?_
      simp -implicitDefEqProofs (maxSteps := 2000000) (disch := first | exact tt_rfl rfl | omega | (simp only [go_sem] <;> omega) | fail) only [go_sem]
      repeat (first | apply Wp.seqA | apply Wp.skipS | apply Wp.blockS | ((first | apply Wp.regS | apply Wp.condV | apply Wp.reg | apply Wp.condW | apply fin_ret); simp -implicitDefEqProofs (maxSteps := 2000000) (disch := first | exact tt_rfl rfl | omega | (simp only [go_sem] <;> omega) | fail) only [go_sem, show ¬ (10 : Int) < t.pairs.length by omega, hsl, show ¬ (12 : Int) < x.ws.length by omega, gt_iff_lt, o1, o2, c1, c3, c4, c5] <;> try with_reducible rfl) | apply Wp.block | apply Wp.exitS | apply Wp.retS | apply Wp.exit | apply Wp.ret | apply Wp.skip)
      apply Wp.loopF 0 (fun i => ⟨[(2, .ptr 128 0 0), (3, .ptr 192 0 0), (7, .slice 448 0 0), (8, .ptr 512 0 0), (9, iv (2)), (10, iv (2)), (11, iv (i))], [(128, .box [iv t.rat, iv t.step, .list 2 (t.pairs.map PairT.av), iv t.round]), (192, .box [.list 1 (x.ws.map fun n => iv n), iv x.wn, iv x.wd, iv x.p]), (448, .arr 1 []), (512, .box [iv (0), iv (0)])], [], 10000000⟩) (fun _ => True)
      · simp -implicitDefEqProofs (maxSteps := 2000000) (disch := first | exact tt_rfl rfl | omega | (simp only [go_sem] <;> omega) | fail) only [go_sem, norm_eq, Ok.some]
        rfl
      · trivial
      intro i hi _
      obtain rfl : i = 0 := by omega
      by_cases hz : 0 < x.ws.length
      · repeat (first | apply Wp.seqA | apply Wp.skipS | apply Wp.blockS | ((first | apply Wp.regS | apply Wp.condV | apply Wp.reg | apply Wp.condW | apply fin_ret); simp -implicitDefEqProofs (maxSteps := 2000000) (disch := first | exact tt_rfl rfl | omega | (simp only [go_sem] <;> omega) | fail) only [go_sem, show (0 : Int) < x.ws.length by omega, hsl, kn, show ((0 : Nat) : Int) = 0 by omega, beq_self_eq_true, bne_self_eq_false] <;> try with_reducible rfl) | apply Wp.block | apply Wp.exitS | apply Wp.retS | apply Wp.exit | apply Wp.ret | apply Wp.skip)
      · repeat (first | apply Wp.seqA | apply Wp.skipS | apply Wp.blockS | ((first | apply Wp.regS | apply Wp.condV | apply Wp.reg | apply Wp.condW | apply fin_ret); simp -implicitDefEqProofs (maxSteps := 2000000) (disch := first | exact tt_rfl rfl | omega | (simp only [go_sem] <;> omega) | fail) only [go_sem, show ¬ (0 : Int) < x.ws.length by omega, hsl, kn, show ((0 : Nat) : Int) = 0 by omega, beq_self_eq_true, bne_self_eq_false] <;> try with_reducible rfl) | apply Wp.block | apply Wp.exitS | apply Wp.retS | apply Wp.exit | apply Wp.ret | apply Wp.skip)
    · refine lim_by (fn := a4) (k := 2) (res := [.tmp 4]) rfl rfl rfl (by simp -implicitDefEqProofs (maxSteps := 2000000) (disch := first | exact tt_rfl rfl | omega | (simp only [go_sem] <;> omega) | fail) only [go_sem]) ?_
      simp -implicitDefEqProofs (maxSteps := 2000000) (disch := first | exact tt_rfl rfl | omega | (simp only [go_sem] <;> omega) | fail) only [go_sem]
      repeat (first | apply Wp.seqA | apply Wp.skipS | apply Wp.blockS | ((first | apply Wp.regS | apply Wp.condV | apply Wp.reg | apply Wp.condW | apply fin_ret); simp -implicitDefEqProofs (maxSteps := 2000000) (disch := first | exact tt_rfl rfl | omega | (simp only [go_sem] <;> omega) | fail) only [go_sem, show ¬ (10 : Int) < t.pairs.length by omega, hsl, show ¬ (12 : Int) < x.ws.length by omega, gt_iff_lt, o1, o2, c1, c3, c4, c5] <;> try with_reducible rfl) | apply Wp.block | apply Wp.exitS | apply Wp.retS | apply Wp.exit | apply Wp.ret | apply Wp.skip)
      apply Wp.loopF 0 (fun i => ⟨[(2, .ptr 128 0 0), (3, .ptr 192 0 0), (7, .slice 448 0 0), (8, .ptr 512 0 0), (9, iv (5)), (10, iv (5)), (11, iv (i))], [(128, .box [iv t.rat, iv t.step, .list 2 (t.pairs.map PairT.av), iv t.round]), (192, .box [.list 1 (x.ws.map fun n => iv n), iv x.wn, iv x.wd, iv x.p]), (448, .arr 1 []), (512, .box [iv (0), iv (0)])], [], 10000000⟩) (fun _ => True)
      · simp -implicitDefEqProofs (maxSteps := 2000000) (disch := first | exact tt_rfl rfl | omega | (simp only [go_sem] <;> omega) | fail) only [go_sem, norm_eq, Ok.some]
        rfl
      · trivial
      intro i hi _
      obtain rfl : i = 0 := by omega
      by_cases hz : 0 < x.ws.length
      · repeat (first | apply Wp.seqA | apply Wp.skipS | apply Wp.blockS | ((first | apply Wp.regS | apply Wp.condV | apply Wp.reg | apply Wp.condW | apply fin_ret); simp -implicitDefEqProofs (maxSteps := 2000000) (disch := first | exact tt_rfl rfl | omega | (simp only [go_sem] <;> omega) | fail) only [go_sem, show (0 : Int) < x.ws.length by omega, hsl, kn, show ((0 : Nat) : Int) = 0 by omega, beq_self_eq_true, bne_self_eq_false] <;> try with_reducible rfl) | apply Wp.block | apply Wp.exitS | apply Wp.retS | apply Wp.exit | apply Wp.ret | apply Wp.skip)
      · repeat (first | apply Wp.seqA | apply Wp.skipS | apply Wp.blockS | ((first | apply Wp.regS | apply Wp.condV | apply Wp.reg | apply Wp.condW | apply fin_ret); simp -implicitDefEqProofs (maxSteps := 2000000) (disch := first | exact tt_rfl rfl | omega | (simp only [go_sem] <;> omega) | fail) only [go_sem, show ¬ (0 : Int) < x.ws.length by omega, hsl, kn, show ((0 : Nat) : Int) = 0 by omega, beq_self_eq_true, bne_self_eq_false] <;> try with_reducible rfl) | apply Wp.block | apply Wp.exitS | apply Wp.retS | apply Wp.exit | apply Wp.ret | apply Wp.skip)
  · rw [hc] at c5
    refine lim_by (fn := a4) (k := 2) (res := [.tmp 4]) rfl rfl rfl (by simp -implicitDefEqProofs (maxSteps := 2000000) (disch := first | exact tt_rfl rfl | omega | (simp only [go_sem] <;> omega) | fail) only [go_sem]) ?_
    simp -implicitDefEqProofs (maxSteps := 2000000) (disch := first | exact tt_rfl rfl | omega | (simp only [go_sem] <;> omega) | fail) only [go_sem]
    repeat (first | apply Wp.seqA | apply Wp.skipS | apply Wp.blockS | ((first | apply Wp.regS | apply Wp.condV | apply Wp.reg | apply Wp.condW | apply fin_ret); simp -implicitDefEqProofs (maxSteps := 2000000) (disch := first | exact tt_rfl rfl | omega | (simp only [go_sem] <;> omega) | fail) only [go_sem, show ¬ (10 : Int) < t.pairs.length by omega, hsl, show ¬ (12 : Int) < x.ws.length by omega, show (8 : Int) < x.ws.length by omega, gt_iff_lt, o1, o2, c1, c3, c4, c5] <;> try with_reducible rfl) | apply Wp.block | apply Wp.exitS | apply Wp.retS | apply Wp.exit | apply Wp.ret | apply Wp.skip)
    apply Wp.loopF 0 (fun i => ⟨[(2, .ptr 128 0 0), (3, .ptr 192 0 0), (7, .slice 448 0 0), (8, .ptr 512 0 0), (9, iv (5)), (10, iv (5)), (11, iv (i))], [(128, .box [iv t.rat, iv t.step, .list 2 (t.pairs.map PairT.av), iv t.round]), (192, .box [.list 1 (x.ws.map fun n => iv n), iv x.wn, iv x.wd, iv x.p]), (448, .arr 1 []), (512, .box [iv (0), iv (0)])], [], 10000000⟩) (fun _ => True)
    · simp -implicitDefEqProofs (maxSteps := 2000000) (disch := first | exact tt_rfl rfl | omega | (simp only [go_sem] <;> omega) | fail) only [go_sem, norm_eq, Ok.some]
      rfl
    · trivial
    intro i hi _
    obtain rfl : i = 0 := by omega
    by_cases hz : 0 < x.ws.length
    · repeat (first | apply Wp.seqA | apply Wp.skipS | apply Wp.blockS | ((first | apply Wp.regS | apply Wp.condV | apply Wp.reg | apply Wp.condW | apply fin_ret); simp -implicitDefEqProofs (maxSteps := 2000000) (disch := first | exact tt_rfl rfl | omega | (simp only [go_sem] <;> omega) | fail) only [go_sem, show (0 : Int) < x.ws.length by omega, hsl, kn, show ((0 : Nat) : Int) = 0 by omega, beq_self_eq_true, bne_self_eq_false] <;> try with_reducible rfl) | apply Wp.block | apply Wp.exitS | apply Wp.retS | apply Wp.exit | apply Wp.ret | apply Wp.skip)
    · repeat (first | apply Wp.seqA | apply Wp.skipS | apply Wp.blockS | ((first | apply Wp.regS | apply Wp.condV | apply Wp.reg | apply Wp.condW | apply fin_ret); simp -implicitDefEqProofs (maxSteps := 2000000) (disch := first | exact tt_rfl rfl | omega | (simp only [go_sem] <;> omega) | fail) only [go_sem, show ¬ (0 : Int) < x.ws.length by omega, hsl, kn, show ((0 : Nat) : Int) = 0 by omega, beq_self_eq_true, bne_self_eq_false] <;> try with_reducible rfl) | apply Wp.block | apply Wp.exitS | apply Wp.retS | apply Wp.exit | apply Wp.ret | apply Wp.skip)

theorem nearests_c (t : TakeA) (x : ShopA) (hl : ¬ 10 < t.pairs.length) (hn : ¬ 8 < x.ws.length) (hE : nearE t x.ws x.wn x.wd x.p = 2) (hc : checkT t = 0) (ht : ¬ TeethOk x.ws) : lim F 4 [t.av, x.av] = some (.bool true, []) := by
  have kn := known_ok
  have o1 := own_ok t (by omega)
  have o2 := nInts_ok x.ws (by omega)
  have c1 := Nearest_err t x.ws x.wn x.wd x.p (by omega) (by omega)
  rw [hE] at c1
  have c3 := Same_ok t (by omega)
  have c4 := nRefInts_ok x.ws (by omega)
  have c5 := refCheck_ok t
  have c6 := fun n => refIn_ok n 1 100
  have c7 := refIn_ok x.wn 1 1000000
  have c8 := refIn_ok x.wd 1 100
  have c9 := refIn_ok x.p 0 2
  have hsl : (x.ws.map fun n => iv n).length = x.ws.length := by simp
  rw [hc] at c5
  unfold TakeA.av ShopA.av at *
  refine lim_by (fn := a4) (k := 2) (res := [.tmp 4]) rfl rfl rfl (by simp -implicitDefEqProofs (maxSteps := 2000000) (disch := first | exact tt_rfl rfl | omega | (simp only [go_sem] <;> omega) | fail) only [go_sem]) ?_
  simp -implicitDefEqProofs (maxSteps := 2000000) (disch := first | exact tt_rfl rfl | omega | (simp only [go_sem] <;> omega) | fail) only [go_sem]
  repeat (first | apply Wp.seqA | apply Wp.skipS | apply Wp.blockS | ((first | apply Wp.regS | apply Wp.condV | apply Wp.reg | apply Wp.condW | apply fin_ret); simp -implicitDefEqProofs (maxSteps := 2000000) (disch := first | exact tt_rfl rfl | omega | (simp only [go_sem] <;> omega) | fail) only [go_sem, show ¬ (10 : Int) < t.pairs.length by omega, hsl, show ¬ (12 : Int) < x.ws.length by omega, show ¬ (8 : Int) < x.ws.length by omega, gt_iff_lt, o1, o2, c1, c3, c4, c5] <;> try with_reducible rfl) | apply Wp.block | apply Wp.exitS | apply Wp.retS | apply Wp.exit | apply Wp.ret | apply Wp.skip)
  apply Wp.loopN x.ws.length (fun i fr => ∃ late : Int, fr = ⟨[(2, .ptr 128 0 0), (3, .ptr 192 0 0), (7, .slice 448 0 0), (8, .ptr 512 0 0), (9, iv (2)), (10, iv (late)), (11, iv (i))], [(128, .box [iv t.rat, iv t.step, .list 2 (t.pairs.map PairT.av), iv t.round]), (192, .box [.list 1 (x.ws.map fun n => iv n), iv x.wn, iv x.wd, iv x.p]), (448, .arr 1 []), (512, .box [iv (0), iv (0)])], [], 10000000⟩ ∧ (late = 0 ∧ (∀ j (hj : j < x.ws.length), j < i → 1 ≤ x.ws[j] ∧ x.ws[j] ≤ 100) ∨ late = 2))
  · simp -implicitDefEqProofs (maxSteps := 2000000) (disch := first | exact tt_rfl rfl | omega | (simp only [go_sem] <;> omega) | fail) only [go_sem, norm_eq, Ok.some]
    exact ⟨0, rfl, .inl ⟨rfl, fun j hj h => by omega⟩⟩
  rintro i fr hi ⟨late, rfl, hlate⟩
  rcases hlate with ⟨rfl, hall⟩ | rfl
  · by_cases hlt : i < x.ws.length
    · have cn := c6 x.ws[i]
      by_cases hx : 1 ≤ x.ws[i] ∧ x.ws[i] ≤ 100
      · rw [decide_eq_true hx] at cn
        repeat (first | apply Wp.seqA | apply Wp.skipS | apply Wp.blockS | ((first | apply Wp.regS | apply Wp.condV | apply Wp.reg | apply Wp.condW | apply fin_ret); simp -implicitDefEqProofs (maxSteps := 2000000) (disch := first | exact tt_rfl rfl | omega | (simp only [go_sem] <;> omega) | fail) only [go_sem, hlt, hsl, Int.ofNat_lt, List.getElem?_map, List.getElem?_eq_getElem hlt, Option.map_some, cn] <;> try with_reducible rfl) | apply Wp.block | apply Wp.exitS | apply Wp.retS | apply Wp.exit | apply Wp.ret | apply Wp.skip)
        apply round_next (Q := fun _ _ => False)
        · simp -implicitDefEqProofs (maxSteps := 2000000) (disch := first | exact tt_rfl rfl | omega | (simp only [go_sem] <;> omega) | fail) only [go_sem, norm_eq, Ok.some]; with_reducible rfl
        refine ⟨hlt, 0, by simp, .inl ⟨rfl, fun j hj hji => ?_⟩⟩
        by_cases e : j = i
        · subst e; exact hx
        · exact hall j hj (by omega)
      · rw [decide_eq_false hx] at cn
        repeat (first | apply Wp.seqA | apply Wp.skipS | apply Wp.blockS | ((first | apply Wp.regS | apply Wp.condV | apply Wp.reg | apply Wp.condW | apply fin_ret); simp -implicitDefEqProofs (maxSteps := 2000000) (disch := first | exact tt_rfl rfl | omega | (simp only [go_sem] <;> omega) | fail) only [go_sem, hlt, hsl, Int.ofNat_lt, List.getElem?_map, List.getElem?_eq_getElem hlt, Option.map_some, cn] <;> try with_reducible rfl) | apply Wp.block | apply Wp.exitS | apply Wp.retS | apply Wp.exit | apply Wp.ret | apply Wp.skip)
        apply round_next (Q := fun _ _ => False)
        · simp -implicitDefEqProofs (maxSteps := 2000000) (disch := first | exact tt_rfl rfl | omega | (simp only [go_sem] <;> omega) | fail) only [go_sem, norm_eq, Ok.some]; with_reducible rfl
        exact ⟨hlt, 2, by simp, .inr rfl⟩
    · exfalso
      apply ht
      intro y hy
      obtain ⟨j, hj, rfl⟩ := List.getElem_of_mem hy
      exact hall j hj (by omega)
  · by_cases hlt : i < x.ws.length
    · repeat (first | apply Wp.seqA | apply Wp.skipS | apply Wp.blockS | ((first | apply Wp.regS | apply Wp.condV | apply Wp.reg | apply Wp.condW | apply fin_ret); simp -implicitDefEqProofs (maxSteps := 2000000) (disch := first | exact tt_rfl rfl | omega | (simp only [go_sem] <;> omega) | fail) only [go_sem, hlt, hsl, Int.ofNat_lt, kn, show ((0 : Nat) : Int) = 0 by omega, beq_self_eq_true, bne_self_eq_false] <;> try with_reducible rfl) | apply Wp.block | apply Wp.exitS | apply Wp.retS | apply Wp.exit | apply Wp.ret | apply Wp.skip)
    · repeat (first | apply Wp.seqA | apply Wp.skipS | apply Wp.blockS | ((first | apply Wp.regS | apply Wp.condV | apply Wp.reg | apply Wp.condW | apply fin_ret); simp -implicitDefEqProofs (maxSteps := 2000000) (disch := first | exact tt_rfl rfl | omega | (simp only [go_sem] <;> omega) | fail) only [go_sem, hlt, hsl, Int.ofNat_lt, kn, show ((0 : Nat) : Int) = 0 by omega, beq_self_eq_true, bne_self_eq_false] <;> try with_reducible rfl) | apply Wp.block | apply Wp.exitS | apply Wp.retS | apply Wp.exit | apply Wp.ret | apply Wp.skip)
theorem nearests_d (t : TakeA) (x : ShopA) (hl : ¬ 10 < t.pairs.length) (hn : ¬ 8 < x.ws.length) (hE : nearE t x.ws x.wn x.wd x.p = 2) (hc : checkT t = 0) (ht : TeethOk x.ws) (hw : ¬ WantOk x.wn x.wd) : lim F 4 [t.av, x.av] = some (.bool true, []) := by
  have kn := known_ok
  have o1 := own_ok t (by omega)
  have o2 := nInts_ok x.ws (by omega)
  have c1 := Nearest_err t x.ws x.wn x.wd x.p (by omega) (by omega)
  rw [hE] at c1
  have c3 := Same_ok t (by omega)
  have c4 := nRefInts_ok x.ws (by omega)
  have c5 := refCheck_ok t
  have c6 := fun n => refIn_ok n 1 100
  have c7 := refIn_ok x.wn 1 1000000
  have c8 := refIn_ok x.wd 1 100
  have c9 := refIn_ok x.p 0 2
  have hsl : (x.ws.map fun n => iv n).length = x.ws.length := by simp
  rw [hc] at c5
  unfold TakeA.av ShopA.av at *
  refine lim_by (fn := a4) (k := 2) (res := [.tmp 4]) rfl rfl rfl (by simp -implicitDefEqProofs (maxSteps := 2000000) (disch := first | exact tt_rfl rfl | omega | (simp only [go_sem] <;> omega) | fail) only [go_sem]) ?_
  simp -implicitDefEqProofs (maxSteps := 2000000) (disch := first | exact tt_rfl rfl | omega | (simp only [go_sem] <;> omega) | fail) only [go_sem]
  repeat (first | apply Wp.seqA | apply Wp.skipS | apply Wp.blockS | ((first | apply Wp.regS | apply Wp.condV | apply Wp.reg | apply Wp.condW | apply fin_ret); simp -implicitDefEqProofs (maxSteps := 2000000) (disch := first | exact tt_rfl rfl | omega | (simp only [go_sem] <;> omega) | fail) only [go_sem, show ¬ (10 : Int) < t.pairs.length by omega, hsl, show ¬ (12 : Int) < x.ws.length by omega, show ¬ (8 : Int) < x.ws.length by omega, gt_iff_lt, o1, o2, c1, c3, c4, c5] <;> try with_reducible rfl) | apply Wp.block | apply Wp.exitS | apply Wp.retS | apply Wp.exit | apply Wp.ret | apply Wp.skip)
  apply Wp.loopF x.ws.length (fun i => ⟨[(2, .ptr 128 0 0), (3, .ptr 192 0 0), (7, .slice 448 0 0), (8, .ptr 512 0 0), (9, iv (2)), (10, iv (0)), (11, iv (i))], [(128, .box [iv t.rat, iv t.step, .list 2 (t.pairs.map PairT.av), iv t.round]), (192, .box [.list 1 (x.ws.map fun n => iv n), iv x.wn, iv x.wd, iv x.p]), (448, .arr 1 []), (512, .box [iv (0), iv (0)])], [], 10000000⟩) (fun _ => True)
  · simp -implicitDefEqProofs (maxSteps := 2000000) (disch := first | exact tt_rfl rfl | omega | (simp only [go_sem] <;> omega) | fail) only [go_sem, norm_eq, Ok.some]
    rfl
  · trivial
  intro i hi _
  by_cases hlt : i < x.ws.length
  · have cn := c6 x.ws[i]
    rw [decide_eq_true (ht _ (List.getElem_mem hlt))] at cn
    repeat (first | apply Wp.seqA | apply Wp.skipS | apply Wp.blockS | ((first | apply Wp.regS | apply Wp.condV | apply Wp.reg | apply Wp.condW | apply fin_ret); simp -implicitDefEqProofs (maxSteps := 2000000) (disch := first | exact tt_rfl rfl | omega | (simp only [go_sem] <;> omega) | fail) only [go_sem, hlt, hsl, Int.ofNat_lt, List.getElem?_map, List.getElem?_eq_getElem hlt, Option.map_some, cn] <;> try with_reducible rfl) | apply Wp.block | apply Wp.exitS | apply Wp.retS | apply Wp.exit | apply Wp.ret | apply Wp.skip)
    apply round_next
    · simp -implicitDefEqProofs (maxSteps := 2000000) (disch := first | exact tt_rfl rfl | omega | (simp only [go_sem] <;> omega) | fail) only [go_sem, norm_eq, Ok.some]; with_reducible rfl
    exact ⟨hlt, by simp, trivial⟩
  · by_cases h1 : 1 ≤ x.wn ∧ x.wn ≤ 1000000
    · rw [decide_eq_true h1] at c7
      rw [decide_eq_false fun h2 => hw ⟨h1, h2⟩] at c8
      repeat (first | apply Wp.seqA | apply Wp.skipS | apply Wp.blockS | ((first | apply Wp.regS | apply Wp.condV | apply Wp.reg | apply Wp.condW | apply fin_ret); simp -implicitDefEqProofs (maxSteps := 2000000) (disch := first | exact tt_rfl rfl | omega | (simp only [go_sem] <;> omega) | fail) only [go_sem, hlt, hsl, Int.ofNat_lt, c7, c8, kn, show ((0 : Nat) : Int) = 0 by omega, beq_self_eq_true, bne_self_eq_false] <;> try with_reducible rfl) | apply Wp.block | apply Wp.exitS | apply Wp.retS | apply Wp.exit | apply Wp.ret | apply Wp.skip)
    · rw [decide_eq_false h1] at c7
      repeat (first | apply Wp.seqA | apply Wp.skipS | apply Wp.blockS | ((first | apply Wp.regS | apply Wp.condV | apply Wp.reg | apply Wp.condW | apply fin_ret); simp -implicitDefEqProofs (maxSteps := 2000000) (disch := first | exact tt_rfl rfl | omega | (simp only [go_sem] <;> omega) | fail) only [go_sem, hlt, hsl, Int.ofNat_lt, c7, kn, show ((0 : Nat) : Int) = 0 by omega, beq_self_eq_true, bne_self_eq_false] <;> try with_reducible rfl) | apply Wp.block | apply Wp.exitS | apply Wp.retS | apply Wp.exit | apply Wp.ret | apply Wp.skip)
theorem nearests_e (t : TakeA) (x : ShopA) (hl : ¬ 10 < t.pairs.length) (hn : ¬ 8 < x.ws.length) (hE : nearE t x.ws x.wn x.wd x.p = 3) (hc : checkT t = 0) (ht : TeethOk x.ws) (hw : WantOk x.wn x.wd) (hp : ¬ (0 ≤ x.p ∧ x.p ≤ 2)) : lim F 4 [t.av, x.av] = some (.bool true, []) := by
  have kn := known_ok
  have o1 := own_ok t (by omega)
  have o2 := nInts_ok x.ws (by omega)
  have c1 := Nearest_err t x.ws x.wn x.wd x.p (by omega) (by omega)
  rw [hE] at c1
  have c3 := Same_ok t (by omega)
  have c4 := nRefInts_ok x.ws (by omega)
  have c5 := refCheck_ok t
  have c6 := fun n => refIn_ok n 1 100
  have c7 := refIn_ok x.wn 1 1000000
  have c8 := refIn_ok x.wd 1 100
  have c9 := refIn_ok x.p 0 2
  have hsl : (x.ws.map fun n => iv n).length = x.ws.length := by simp
  rw [hc] at c5
  unfold TakeA.av ShopA.av at *
  refine lim_by (fn := a4) (k := 2) (res := [.tmp 4]) rfl rfl rfl (by simp -implicitDefEqProofs (maxSteps := 2000000) (disch := first | exact tt_rfl rfl | omega | (simp only [go_sem] <;> omega) | fail) only [go_sem]) ?_
  simp -implicitDefEqProofs (maxSteps := 2000000) (disch := first | exact tt_rfl rfl | omega | (simp only [go_sem] <;> omega) | fail) only [go_sem]
  repeat (first | apply Wp.seqA | apply Wp.skipS | apply Wp.blockS | ((first | apply Wp.regS | apply Wp.condV | apply Wp.reg | apply Wp.condW | apply fin_ret); simp -implicitDefEqProofs (maxSteps := 2000000) (disch := first | exact tt_rfl rfl | omega | (simp only [go_sem] <;> omega) | fail) only [go_sem, show ¬ (10 : Int) < t.pairs.length by omega, hsl, show ¬ (12 : Int) < x.ws.length by omega, show ¬ (8 : Int) < x.ws.length by omega, gt_iff_lt, o1, o2, c1, c3, c4, c5] <;> try with_reducible rfl) | apply Wp.block | apply Wp.exitS | apply Wp.retS | apply Wp.exit | apply Wp.ret | apply Wp.skip)
  apply Wp.loopF x.ws.length (fun i => ⟨[(2, .ptr 128 0 0), (3, .ptr 192 0 0), (7, .slice 448 0 0), (8, .ptr 512 0 0), (9, iv (3)), (10, iv (0)), (11, iv (i))], [(128, .box [iv t.rat, iv t.step, .list 2 (t.pairs.map PairT.av), iv t.round]), (192, .box [.list 1 (x.ws.map fun n => iv n), iv x.wn, iv x.wd, iv x.p]), (448, .arr 1 []), (512, .box [iv (0), iv (0)])], [], 10000000⟩) (fun _ => True)
  · simp -implicitDefEqProofs (maxSteps := 2000000) (disch := first | exact tt_rfl rfl | omega | (simp only [go_sem] <;> omega) | fail) only [go_sem, norm_eq, Ok.some]
    rfl
  · trivial
  intro i hi _
  by_cases hlt : i < x.ws.length
  · have cn := c6 x.ws[i]
    rw [decide_eq_true (ht _ (List.getElem_mem hlt))] at cn
    repeat (first | apply Wp.seqA | apply Wp.skipS | apply Wp.blockS | ((first | apply Wp.regS | apply Wp.condV | apply Wp.reg | apply Wp.condW | apply fin_ret); simp -implicitDefEqProofs (maxSteps := 2000000) (disch := first | exact tt_rfl rfl | omega | (simp only [go_sem] <;> omega) | fail) only [go_sem, hlt, hsl, Int.ofNat_lt, List.getElem?_map, List.getElem?_eq_getElem hlt, Option.map_some, cn] <;> try with_reducible rfl) | apply Wp.block | apply Wp.exitS | apply Wp.retS | apply Wp.exit | apply Wp.ret | apply Wp.skip)
    apply round_next
    · simp -implicitDefEqProofs (maxSteps := 2000000) (disch := first | exact tt_rfl rfl | omega | (simp only [go_sem] <;> omega) | fail) only [go_sem, norm_eq, Ok.some]; with_reducible rfl
    exact ⟨hlt, by simp, trivial⟩
  · rw [decide_eq_true hw.1] at c7
    rw [decide_eq_true hw.2] at c8
    rw [decide_eq_false hp] at c9
    repeat (first | apply Wp.seqA | apply Wp.skipS | apply Wp.blockS | ((first | apply Wp.regS | apply Wp.condV | apply Wp.reg | apply Wp.condW | apply fin_ret); simp -implicitDefEqProofs (maxSteps := 2000000) (disch := first | exact tt_rfl rfl | omega | (simp only [go_sem] <;> omega) | fail) only [go_sem, hlt, hsl, Int.ofNat_lt, c7, c8, c9, kn, show ((0 : Nat) : Int) = 0 by omega, beq_self_eq_true, bne_self_eq_false] <;> try with_reducible rfl) | apply Wp.block | apply Wp.exitS | apply Wp.retS | apply Wp.exit | apply Wp.ret | apply Wp.skip)
theorem nearests_f (t : TakeA) (x : ShopA) (hl : ¬ 10 < t.pairs.length) (hs : ShopOk t x.ws) (hw : WantOk x.wn x.wd) (hp : 0 ≤ x.p ∧ x.p ≤ 2) : lim F 4 [t.av, x.av] = some (.bool true, []) := by
  have hn := hs.l
  have ht := hs.s
  have hc := hs.c
  have kn := known_ok
  have o1 := own_ok t (by omega)
  have o2 := nInts_ok x.ws (by omega)
  have c3 := Same_ok t (by omega)
  have c4 := nRefInts_ok x.ws (by omega)
  have c5 := refCheck_ok t
  have c6 := fun n => refIn_ok n 1 100
  have c7 := refIn_ok x.wn 1 1000000
  have c8 := refIn_ok x.wd 1 100
  have c9 := refIn_ok x.p 0 2
  have hsl : (x.ws.map fun n => iv n).length = x.ws.length := by simp
  rw [hc] at c5
  obtain ⟨q, hq, L, rfl, hL⟩ := Nearest_ok t x.ws x.wn x.wd x.p.toNat hs hw (by omega)
  have cr := refNearest_ok t x.ws x.wn x.wd x.p.toNat hs hw.1 hw.2 (by omega)
  rw [show ((x.p.toNat : Nat) : Int) = x.p by omega] at hq cr
  obtain ⟨b, hb⟩ : ∃ b, b = bestOf x.wn x.wd ⟨t, x.ws, []⟩ (upTo ⟨t, x.ws, []⟩ x.p.toNat) := ⟨_, rfl⟩
  rw [← hb] at hq hL cr
  unfold takeV at hq
  unfold resV at cr
  have hbl : b.ps.length ≤ 2 := by
    rcases List.mem_cons.1 (bestOf_mem x.wn x.wd (upTo ⟨t, x.ws, []⟩ x.p.toNat) ⟨t, x.ws, []⟩) with h | h
    · rw [hb, h]; exact Nat.zero_le _
    · obtain ⟨j, hj, hg⟩ := upTo_good _ _ h
      rw [← hb] at hg
      rw [hg.p]; omega
  have cz := nRefInts_ok (nsI b.ps) (by rw [nsI_len]; omega)
  rw [← nsL_map] at cz
  have hnl := nsL_len b.ps
  rw [decide_eq_true hw.1] at c7
  rw [decide_eq_true hw.2] at c8
  rw [decide_eq_true hp] at c9
  unfold TakeA.av ShopA.av at *
  rcases hL with ⟨rfl, hps⟩ | rfl
  · skip
    rw [hps] at cr cz
    rw [show nsL [] = [] from rfl] at cr cz
    refine lim_by (fn := a4) (k := 2) (res := [.tmp 4]) rfl rfl rfl (by simp -implicitDefEqProofs (maxSteps := 2000000) (disch := first | exact tt_rfl rfl | omega | (simp only [go_sem] <;> omega) | fail) only [go_sem]) ?_
    simp -implicitDefEqProofs (maxSteps := 2000000) (disch := first | exact tt_rfl rfl | omega | (simp only [go_sem] <;> omega) | fail) only [go_sem]
    repeat (first | apply Wp.seqA | apply Wp.skipS | apply Wp.blockS | ((first | apply Wp.regS | apply Wp.condV | apply Wp.reg | apply Wp.condW | apply fin_ret); simp -implicitDefEqProofs (maxSteps := 2000000) (disch := first | exact tt_rfl rfl | omega | (simp only [go_sem] <;> omega) | fail) only [go_sem, show ¬ (10 : Int) < t.pairs.length by omega, hsl, show ¬ (12 : Int) < x.ws.length by omega, show ¬ (8 : Int) < x.ws.length by omega, gt_iff_lt, o1, o2, hq, c3, c4, c5] <;> try with_reducible rfl) | apply Wp.block | apply Wp.exitS | apply Wp.retS | apply Wp.exit | apply Wp.ret | apply Wp.skip)
    apply Wp.loopF x.ws.length (fun i => ⟨[(2, .ptr 128 0 0), (3, .ptr 192 0 0), (7, .slice 448 0 0), (8, .ptr 512 0 0), (9, iv (0)), (10, iv (0)), (11, iv (i))], [(128, .box [iv t.rat, iv t.step, .list 2 (t.pairs.map PairT.av), iv t.round]), (192, .box [.list 1 (x.ws.map fun n => iv n), iv x.wn, iv x.wd, iv x.p]), (448, .arr 1 []), (512, .box [iv (nT (wheelT b)), iv (dT (wheelT b))])], [], 10000000⟩) (fun _ => True)
    · simp -implicitDefEqProofs (maxSteps := 2000000) (disch := first | exact tt_rfl rfl | omega | (simp only [go_sem] <;> omega) | fail) only [go_sem, norm_eq, Ok.some]
      rfl
    · trivial
    intro i hi _
    by_cases hlt : i < x.ws.length
    · have cn := c6 x.ws[i]
      rw [decide_eq_true (ht _ (List.getElem_mem hlt))] at cn
      repeat (first | apply Wp.seqA | apply Wp.skipS | apply Wp.blockS | ((first | apply Wp.regS | apply Wp.condV | apply Wp.reg | apply Wp.condW | apply fin_ret); simp -implicitDefEqProofs (maxSteps := 2000000) (disch := first | exact tt_rfl rfl | omega | (simp only [go_sem] <;> omega) | fail) only [go_sem, hlt, hsl, Int.ofNat_lt, List.getElem?_map, List.getElem?_eq_getElem hlt, Option.map_some, cn] <;> try with_reducible rfl) | apply Wp.block | apply Wp.exitS | apply Wp.retS | apply Wp.exit | apply Wp.ret | apply Wp.skip)
      apply round_next
      · simp -implicitDefEqProofs (maxSteps := 2000000) (disch := first | exact tt_rfl rfl | omega | (simp only [go_sem] <;> omega) | fail) only [go_sem, norm_eq, Ok.some]; with_reducible rfl
      exact ⟨hlt, by simp, trivial⟩
    · repeat (first | apply Wp.seqA | apply Wp.skipS | apply Wp.blockS | ((first | apply Wp.regS | apply Wp.condV | apply Wp.reg | apply Wp.condW | apply fin_ret); simp -implicitDefEqProofs (maxSteps := 2000000) (disch := first | exact tt_rfl rfl | omega | (simp only [go_sem] <;> omega) | fail) only [go_sem, hlt, hsl, Int.ofNat_lt, c7, c8, c9, cr, cz, kn, show ((0 : Nat) : Int) = 0 by omega, beq_self_eq_true, bne_self_eq_false] <;> try with_reducible rfl) | apply Wp.block | apply Wp.exitS | apply Wp.retS | apply Wp.exit | apply Wp.ret | apply Wp.skip)
  · skip
    skip
    refine lim_by (fn := a4) (k := 2) (res := [.tmp 4]) rfl rfl rfl (by simp -implicitDefEqProofs (maxSteps := 2000000) (disch := first | exact tt_rfl rfl | omega | (simp only [go_sem] <;> omega) | fail) only [go_sem]) ?_
    simp -implicitDefEqProofs (maxSteps := 2000000) (disch := first | exact tt_rfl rfl | omega | (simp only [go_sem] <;> omega) | fail) only [go_sem]
    repeat (first | apply Wp.seqA | apply Wp.skipS | apply Wp.blockS | ((first | apply Wp.regS | apply Wp.condV | apply Wp.reg | apply Wp.condW | apply fin_ret); simp -implicitDefEqProofs (maxSteps := 2000000) (disch := first | exact tt_rfl rfl | omega | (simp only [go_sem] <;> omega) | fail) only [go_sem, show ¬ (10 : Int) < t.pairs.length by omega, hsl, show ¬ (12 : Int) < x.ws.length by omega, show ¬ (8 : Int) < x.ws.length by omega, gt_iff_lt, o1, o2, hq, c3, c4, c5] <;> try with_reducible rfl) | apply Wp.block | apply Wp.exitS | apply Wp.retS | apply Wp.exit | apply Wp.ret | apply Wp.skip)
    apply Wp.loopF x.ws.length (fun i => ⟨[(2, .ptr 128 0 0), (3, .ptr 192 0 0), (7, .list 1 (nsL b.ps)), (8, .ptr 512 0 0), (9, iv (0)), (10, iv (0)), (11, iv (i))], [(128, .box [iv t.rat, iv t.step, .list 2 (t.pairs.map PairT.av), iv t.round]), (192, .box [.list 1 (x.ws.map fun n => iv n), iv x.wn, iv x.wd, iv x.p]), (512, .box [iv (nT (wheelT b)), iv (dT (wheelT b))])], [], 10000000⟩) (fun _ => True)
    · simp -implicitDefEqProofs (maxSteps := 2000000) (disch := first | exact tt_rfl rfl | omega | (simp only [go_sem] <;> omega) | fail) only [go_sem, norm_eq, Ok.some]
      rfl
    · trivial
    intro i hi _
    by_cases hlt : i < x.ws.length
    · have cn := c6 x.ws[i]
      rw [decide_eq_true (ht _ (List.getElem_mem hlt))] at cn
      repeat (first | apply Wp.seqA | apply Wp.skipS | apply Wp.blockS | ((first | apply Wp.regS | apply Wp.condV | apply Wp.reg | apply Wp.condW | apply fin_ret); simp -implicitDefEqProofs (maxSteps := 2000000) (disch := first | exact tt_rfl rfl | omega | (simp only [go_sem] <;> omega) | fail) only [go_sem, hlt, hsl, Int.ofNat_lt, List.getElem?_map, List.getElem?_eq_getElem hlt, Option.map_some, cn] <;> try with_reducible rfl) | apply Wp.block | apply Wp.exitS | apply Wp.retS | apply Wp.exit | apply Wp.ret | apply Wp.skip)
      apply round_next
      · simp -implicitDefEqProofs (maxSteps := 2000000) (disch := first | exact tt_rfl rfl | omega | (simp only [go_sem] <;> omega) | fail) only [go_sem, norm_eq, Ok.some]; with_reducible rfl
      exact ⟨hlt, by simp, trivial⟩
    · repeat (first | apply Wp.seqA | apply Wp.skipS | apply Wp.blockS | ((first | apply Wp.regS | apply Wp.condV | apply Wp.reg | apply Wp.condW | apply fin_ret); simp -implicitDefEqProofs (maxSteps := 2000000) (disch := first | exact tt_rfl rfl | omega | (simp only [go_sem] <;> omega) | fail) only [go_sem, hlt, hsl, Int.ofNat_lt, c7, c8, c9, cr, cz, kn, show ((0 : Nat) : Int) = 0 by omega, beq_self_eq_true, bne_self_eq_false] <;> try with_reducible rfl) | apply Wp.block | apply Wp.exitS | apply Wp.retS | apply Wp.exit | apply Wp.ret | apply Wp.skip)
theorem beamNearests_ok (t : TakeA) (x : ShopA) : lim F 4 [t.av, x.av] = some (.bool true, []) := by
  by_cases h0 : 10 < t.pairs.length ∨ 12 < x.ws.length
  · exact nearests_long t x h0
  have h1 : ¬ 10 < t.pairs.length := fun h => h0 (.inl h)
  have h2 : ¬ 12 < x.ws.length := fun h => h0 (.inr h)
  by_cases hc : checkT t = 0
  · by_cases h8 : 8 < x.ws.length
    · exact nearests_ab t x h1 h2 5 (.inr rfl) (by unfold nearE; rw [if_pos hc, if_neg (by omega)]) (.inr ⟨hc, rfl, h8⟩)
    · by_cases ht : TeethOk x.ws
      · by_cases hw : WantOk x.wn x.wd
        · by_cases hp : 0 ≤ x.p ∧ x.p ≤ 2
          · exact nearests_f t x h1 ⟨hc, by omega, ht⟩ hw hp
          · exact nearests_e t x h1 h8 (by unfold nearE; rw [if_pos hc, if_pos (by omega), if_pos ⟨ht, hw⟩, if_neg hp]) hc ht hw hp
        · exact nearests_d t x h1 h8 (by unfold nearE; rw [if_pos hc, if_pos (by omega), if_neg fun h => hw h.2]) hc ht hw
      · exact nearests_c t x h1 h8 (by unfold nearE; rw [if_pos hc, if_pos (by omega), if_neg fun h => ht h.1]) hc ht
  · have hv : checkT t = 2 ∨ checkT t = 5 := by
      unfold checkT at *
      split <;> simp_all
    exact nearests_ab t x h1 h2 (checkT t) hv (by unfold nearE; rw [if_neg hc]) (.inl rfl)
end Go.Abs
