/-
  BeamRolls: what it looks at is so, for every roll, every weight and all weights.
-/
import Derived.Test.YtbmihapnaclidaaR5
import Derived.Test.YtbmihapnaclidaaKnown
set_option linter.all false
namespace Go.Abs
set_option maxRecDepth 10000
set_option maxHeartbeats 8000000

theorem ints_ok (l : List Int) (hl : l.length < 1000000) : lim F 23 [.list 1 (l.map fun n => iv n)] = some (.own 1 (l.map fun n => iv n), []) := by
  refine lim_by (fn := a23) (k := 1) (res := [.tmp 2]) rfl rfl rfl (by simp -implicitDefEqProofs (maxSteps := 2000000) (disch := first | exact tt_rfl rfl | omega | (simp only [go_sem] <;> omega) | fail) only [go_sem]) ?_
  simp -implicitDefEqProofs (maxSteps := 2000000) (disch := first | exact tt_rfl rfl | omega | (simp only [go_sem] <;> omega) | fail) only [go_sem]
  repeat (first | apply Wp.seqA | apply Wp.skipS | apply Wp.blockS | ((first | apply Wp.regS | apply Wp.condV | apply Wp.reg | apply Wp.condW | apply fin_ret); simp -implicitDefEqProofs (maxSteps := 2000000) (disch := first | exact tt_rfl rfl | omega | (simp only [go_sem] <;> omega) | fail) only [go_sem] <;> try with_reducible rfl) | apply Wp.block | apply Wp.exitS | apply Wp.retS | apply Wp.exit | apply Wp.ret | apply Wp.skip)
theorem refInts_ok (l : List Int) (hl : l.length < 1000000) : lim F 25 [.list 1 (l.map fun n => iv n), .list 1 (l.map fun n => iv n)] = some (.bool true, []) := by
  refine lim_by (fn := a25) (k := 2) (res := [.tmp 4]) rfl rfl rfl (by simp -implicitDefEqProofs (maxSteps := 2000000) (disch := first | exact tt_rfl rfl | omega | (simp only [go_sem] <;> omega) | fail) only [go_sem]) ?_
  simp -implicitDefEqProofs (maxSteps := 2000000) (disch := first | exact tt_rfl rfl | omega | (simp only [go_sem] <;> omega) | fail) only [go_sem]
  repeat (first | apply Wp.seqA | apply Wp.skipS | apply Wp.blockS | ((first | apply Wp.regS | apply Wp.condV | apply Wp.reg | apply Wp.condW | apply fin_ret); simp -implicitDefEqProofs (maxSteps := 2000000) (disch := first | exact tt_rfl rfl | omega | (simp only [go_sem] <;> omega) | fail) only [go_sem] <;> try with_reducible rfl) | apply Wp.block | apply Wp.exitS | apply Wp.retS | apply Wp.exit | apply Wp.ret | apply Wp.skip)
  apply Wp.loopF l.length (fun i => ⟨[(0, .list 1 (l.map fun n => iv n)), (1, .list 1 (l.map fun n => iv n)), (5, iv i)], [], [], 10000000⟩) (fun _ => True)
  · simp -implicitDefEqProofs (maxSteps := 2000000) (disch := first | exact tt_rfl rfl | omega | (simp only [go_sem] <;> omega) | fail) only [go_sem, norm_eq, Ok.some]
    rfl
  · trivial
  intro i hi _
  by_cases hlt : i < l.length
  · repeat (first | apply Wp.seqA | apply Wp.skipS | apply Wp.blockS | ((first | apply Wp.regS | apply Wp.condV | apply Wp.reg | apply Wp.condW | apply fin_ret); simp -implicitDefEqProofs (maxSteps := 2000000) (disch := first | exact tt_rfl rfl | omega | (simp only [go_sem] <;> omega) | fail) only [go_sem, hlt, Int.ofNat_lt, List.getElem?_map, List.getElem?_eq_getElem hlt, Option.map_some, bne_self_eq_false, beq_self_eq_true] <;> try with_reducible rfl) | apply Wp.block | apply Wp.exitS | apply Wp.retS | apply Wp.exit | apply Wp.ret | apply Wp.skip)
    apply round_next
    · simp -implicitDefEqProofs (maxSteps := 2000000) (disch := first | exact tt_rfl rfl | omega | (simp only [go_sem] <;> omega) | fail) only [go_sem, norm_eq, Ok.some]; with_reducible rfl
    exact ⟨hlt, by simp, trivial⟩
  · repeat (first | apply Wp.seqA | apply Wp.skipS | apply Wp.blockS | ((first | apply Wp.regS | apply Wp.condV | apply Wp.reg | apply Wp.condW | apply fin_ret); simp -implicitDefEqProofs (maxSteps := 2000000) (disch := first | exact tt_rfl rfl | omega | (simp only [go_sem] <;> omega) | fail) only [go_sem, hlt, Int.ofNat_lt] <;> try with_reducible rfl) | apply Wp.block | apply Wp.exitS | apply Wp.retS | apply Wp.exit | apply Wp.ret | apply Wp.skip)

theorem rolls_none (r : RollA) (w : Int) (ws : List Int) (hl : ¬ 25 < ws.length) (h : r.Ok) (hw : ¬ WeiOk w) : lim F 7 [r.av, iv w, .list 1 (ws.map fun n => iv n)] = some (.bool true, []) := by
  have kn := known_ok
  have o1 := ints_ok ws (by omega)
  have c1 := Roll_ok r
  have c2 := Bears_ok r w
  have c3 := Weights_ok r ws (by omega)
  have c4 := refInts_ok ws (by omega)
  have c5 := refRoll_ok r
  have c6 := refIn_ok w 1 100000
  rw [show rollE r = 0 from if_pos h] at c1
  rw [decide_eq_true h] at c5
  have eB : bearsE r w = 3 := by unfold bearsE; rw [if_pos h, if_neg hw]
  rw [eB, if_neg (by omega), if_neg (by omega)] at c2
  rw [decide_eq_false hw] at c6
  have v0 : weiE r ws = 0 → weiK r ws = 0 ∧ weiT r ws = turnsW (holdsOf r ws) r.layers.toNat := by intro e; unfold weiK weiT; rw [e, if_neg (by omega), if_pos rfl]; exact ⟨rfl, rfl⟩
  have v9 : weiE r ws = 9 → weiK r ws = r.layers - 1 - covered (holdsOf r ws) r.layers ∧ weiT r ws = [] := by intro e; unfold weiK weiT; rw [e, if_pos rfl, if_neg (by omega)]; exact ⟨rfl, rfl⟩
  have vx : weiE r ws ≠ 0 → weiE r ws ≠ 9 → weiK r ws = 0 ∧ weiT r ws = [] := by intro e e'; unfold weiK weiT; rw [if_neg e', if_neg e]; exact ⟨rfl, rfl⟩
  by_cases h20 : 20 < ws.length
  · have eE : weiE r ws = 5 := by unfold weiE; rw [if_pos h, if_pos h20]
    obtain ⟨ek, et⟩ := vx (by omega) (by omega)
    rw [eE, ek, et, List.map_nil] at c3
    unfold RollA.av RollA.cells at *
    refine lim_by (fn := a7) (k := 3) (res := [.tmp 6]) rfl rfl rfl (by simp -implicitDefEqProofs (maxSteps := 2000000) (disch := first | exact tt_rfl rfl | omega | (simp only [go_sem] <;> omega) | fail) only [go_sem]) ?_
    simp -implicitDefEqProofs (maxSteps := 2000000) (disch := first | exact tt_rfl rfl | omega | (simp only [go_sem] <;> omega) | fail) only [go_sem]
    repeat (first | apply Wp.seqA | apply Wp.skipS | apply Wp.blockS | ((first | apply Wp.regS | apply Wp.condV | apply Wp.reg | apply Wp.condW | apply fin_ret); simp -implicitDefEqProofs (maxSteps := 2000000) (disch := first | exact tt_rfl rfl | omega | (simp only [go_sem] <;> omega) | fail) only [go_sem, hl, show ¬ (25 : Int) < ws.length by omega, show (20 : Int) < ws.length by omega, o1, c1, c2, c3, c4, c5, c6, kn, gt_iff_lt, beq_self_eq_true, bne_self_eq_false, eq_true (show (([] : List AV).length : Int) = 0 from rfl), eq_true (show ((0 : Nat) : Int) = 0 from rfl)] <;> try with_reducible rfl) | apply Wp.block | apply Wp.exitS | apply Wp.retS | apply Wp.exit | apply Wp.ret | apply Wp.skip)
    apply Wp.loopF 0 (fun i => ⟨[(2, .list 1 (ws.map fun n => iv n)), (3, .ptr 192 0 0), (11, .slice 704 0 0), (12, iv 0), (13, iv 5), (16, iv 5), (17, iv i)], [(192, .box [iv r.core, iv r.thick, iv r.layers, iv r.pulley, iv r.plo, iv r.phi]), (704, .arr 2 ([] : List AV))], [], 10000000⟩) (fun _ => True)
    · simp -implicitDefEqProofs (maxSteps := 2000000) (disch := first | exact tt_rfl rfl | omega | (simp only [go_sem] <;> omega) | fail) only [go_sem, norm_eq, Ok.some]
      rfl
    · trivial
    intro i hi _
    obtain rfl : i = 0 := by omega
    repeat (first | apply Wp.seqA | apply Wp.skipS | apply Wp.blockS | ((first | apply Wp.regS | apply Wp.condV | apply Wp.reg | apply Wp.condW | apply fin_ret); simp -implicitDefEqProofs (maxSteps := 2000000) (disch := first | exact tt_rfl rfl | omega | (simp only [go_sem] <;> omega) | fail) only [go_sem, show ((0 : Nat) : Int) < ws.length by omega, kn, beq_self_eq_true, bne_self_eq_false, eq_true (show ((0 : Nat) : Int) = 0 from rfl)] <;> try with_reducible rfl) | apply Wp.block | apply Wp.exitS | apply Wp.retS | apply Wp.exit | apply Wp.ret | apply Wp.skip)
  · have eE : weiE r ws = if ∀ w ∈ ws, WeiOk w then if covered (holdsOf r ws) r.layers < r.layers.toNat then 9 else 0 else 3 := by unfold weiE; rw [if_pos h, if_neg h20]
    have c8 := fun hw => refWeights_ok r ws h hw (by omega)
    have c9 := fun hw hc => refFewest_ok r ws h hw (by omega) hc
    have hcv := cover_all (hs := holdsOf r ws) (L := r.layers)
    have ci := fun w => refIn_ok w 1 100000
    have htn := turnsW_len (holdsOf r ws) r.layers.toNat
    have hlay := h.2.2.1
    generalize hwe : weiE r ws = we at *
    generalize hwk : weiK r ws = wk at *
    generalize htw : weiT r ws = tw at *
    have htl : (tw.map TurnA.av).length = tw.length := by simp
    unfold RollA.av RollA.cells at *
    refine lim_by (fn := a7) (k := 3) (res := [.tmp 6]) rfl rfl rfl (by simp -implicitDefEqProofs (maxSteps := 2000000) (disch := first | exact tt_rfl rfl | omega | (simp only [go_sem] <;> omega) | fail) only [go_sem]) ?_
    simp -implicitDefEqProofs (maxSteps := 2000000) (disch := first | exact tt_rfl rfl | omega | (simp only [go_sem] <;> omega) | fail) only [go_sem]
    repeat (first | apply Wp.seqA | apply Wp.skipS | apply Wp.blockS | ((first | apply Wp.regS | apply Wp.condV | apply Wp.reg | apply Wp.condW | apply fin_ret); simp -implicitDefEqProofs (maxSteps := 2000000) (disch := first | exact tt_rfl rfl | omega | (simp only [go_sem] <;> omega) | fail) only [go_sem, hl, show ¬ (25 : Int) < ws.length by omega, show ¬ (20 : Int) < ws.length by omega, o1, c1, c2, c3, c4, c5, c6, kn, htl, gt_iff_lt, beq_self_eq_true, bne_self_eq_false] <;> try with_reducible rfl) | apply Wp.block | apply Wp.exitS | apply Wp.retS | apply Wp.exit | apply Wp.ret | apply Wp.skip)
    apply Wp.loopN ws.length (fun i fr => ∃ want : Int, fr = ⟨[(2, .list 1 (ws.map fun n => iv n)), (3, .ptr 192 0 0), (11, .slice 704 0 tw.length), (12, iv wk), (13, iv we), (16, iv want), (17, iv i)], [(192, .box [iv r.core, iv r.thick, iv r.layers, iv r.pulley, iv r.plo, iv r.phi]), (704, .arr 2 (tw.map TurnA.av))], [], 10000000⟩ ∧ (want = 0 ∧ (∀ j (hj : j < ws.length), j < i → WeiOk ws[j]) ∨ want = 3 ∧ ¬ ∀ w ∈ ws, WeiOk w))
    · simp -implicitDefEqProofs (maxSteps := 2000000) (disch := first | exact tt_rfl rfl | omega | (simp only [go_sem] <;> omega) | fail) only [go_sem, norm_eq, Ok.some]
      exact ⟨0, rfl, .inl ⟨rfl, fun j hj h => by omega⟩⟩
    rintro i fr hi ⟨want, rfl, hwant⟩
    rcases hwant with ⟨rfl, hall⟩ | ⟨rfl, hbad⟩
    · by_cases hlt : i < ws.length
      · have cn := ci ws[i]
        by_cases hx : WeiOk ws[i]
        · rw [decide_eq_true hx] at cn
          repeat (first | apply Wp.seqA | apply Wp.skipS | apply Wp.blockS | ((first | apply Wp.regS | apply Wp.condV | apply Wp.reg | apply Wp.condW | apply fin_ret); simp -implicitDefEqProofs (maxSteps := 2000000) (disch := first | exact tt_rfl rfl | omega | (simp only [go_sem] <;> omega) | fail) only [go_sem, hlt, Int.ofNat_lt, List.getElem?_map, List.getElem?_eq_getElem hlt, Option.map_some, cn] <;> try with_reducible rfl) | apply Wp.block | apply Wp.exitS | apply Wp.retS | apply Wp.exit | apply Wp.ret | apply Wp.skip)
          apply round_next (Q := fun _ _ => False)
          · simp -implicitDefEqProofs (maxSteps := 2000000) (disch := first | exact tt_rfl rfl | omega | (simp only [go_sem] <;> omega) | fail) only [go_sem, norm_eq, Ok.some]; with_reducible rfl
          refine ⟨hlt, 0, by simp, .inl ⟨rfl, fun j hj hji => ?_⟩⟩
          by_cases e : j = i
          · subst e; exact hx
          · exact hall j hj (by omega)
        · rw [decide_eq_false hx] at cn
          repeat (first | apply Wp.seqA | apply Wp.skipS | apply Wp.blockS | ((first | apply Wp.regS | apply Wp.condV | apply Wp.reg | apply Wp.condW | apply fin_ret); simp -implicitDefEqProofs (maxSteps := 2000000) (disch := first | exact tt_rfl rfl | omega | (simp only [go_sem] <;> omega) | fail) only [go_sem, hlt, Int.ofNat_lt, List.getElem?_map, List.getElem?_eq_getElem hlt, Option.map_some, cn] <;> try with_reducible rfl) | apply Wp.block | apply Wp.exitS | apply Wp.retS | apply Wp.exit | apply Wp.ret | apply Wp.skip)
          apply round_next (Q := fun _ _ => False)
          · simp -implicitDefEqProofs (maxSteps := 2000000) (disch := first | exact tt_rfl rfl | omega | (simp only [go_sem] <;> omega) | fail) only [go_sem, norm_eq, Ok.some]; with_reducible rfl
          exact ⟨hlt, 3, by simp, .inr ⟨rfl, fun h => hx (h _ (List.getElem_mem hlt))⟩⟩
      · obtain rfl : i = ws.length := by omega
        have hok : ∀ w ∈ ws, WeiOk w := by
          intro y hy
          obtain ⟨j, hj, rfl⟩ := List.getElem_of_mem hy
          exact hall j hj hj
        have d8 := c8 hok
        rw [if_pos hok] at eE
        by_cases hcc : covered (holdsOf r ws) r.layers < r.layers.toNat
        · rw [if_pos hcc] at eE
          subst eE
          obtain ⟨ek, et⟩ := v9 rfl
          rw [if_pos hcc, if_pos hcc, decide_eq_false (fun h => h hcc), ← ek] at d8
          subst et
          simp only [List.map_nil, List.length_nil]
          repeat (first | apply Wp.seqA | apply Wp.skipS | apply Wp.blockS | ((first | apply Wp.regS | apply Wp.condV | apply Wp.reg | apply Wp.condW | apply fin_ret); simp -implicitDefEqProofs (maxSteps := 2000000) (disch := first | exact tt_rfl rfl | omega | (simp only [go_sem] <;> omega) | fail) only [go_sem, Int.lt_irrefl, d8, kn, beq_self_eq_true, bne_self_eq_false, eq_true (show (([] : List AV).length : Int) = 0 from rfl), eq_true (show ((0 : Nat) : Int) = 0 from rfl)] <;> try with_reducible rfl) | apply Wp.block | apply Wp.exitS | apply Wp.retS | apply Wp.exit | apply Wp.ret | apply Wp.skip)
        · rw [if_neg hcc] at eE
          subst eE
          obtain ⟨ek, et⟩ := v0 rfl
          subst ek
          rw [if_neg hcc, if_neg hcc, decide_eq_true hcc, ← et] at d8
          have d9 := c9 hok (hcv hcc)
          unfold fewF at d9
          rw [← et] at d9 htn
          repeat (first | apply Wp.seqA | apply Wp.skipS | apply Wp.blockS | ((first | apply Wp.regS | apply Wp.condV | apply Wp.reg | apply Wp.condW | apply fin_ret); simp -implicitDefEqProofs (maxSteps := 2000000) (disch := first | exact tt_rfl rfl | omega | (simp only [go_sem] <;> omega) | fail) only [go_sem, Int.lt_irrefl, d8, d9, htl, beq_self_eq_true, bne_self_eq_false] <;> try with_reducible rfl) | apply Wp.block | apply Wp.exitS | apply Wp.retS | apply Wp.exit | apply Wp.ret | apply Wp.skip)
          apply Wp.loopF tw.length (fun i => ⟨[(11, .slice 704 0 tw.length), (18, .slice 1152 0 tw.length), (21, iv i)], [(704, .arr 2 (tw.map TurnA.av)), (1152, .arr 2 (tw.map TurnA.av))], [], 10000000⟩) (fun _ => True)
          · simp -implicitDefEqProofs (maxSteps := 2000000) (disch := first | exact tt_rfl rfl | omega | (simp only [go_sem] <;> omega) | fail) only [go_sem, norm_eq, Ok.some]
            rfl
          · trivial
          intro j hj _
          by_cases hjl : j < tw.length
          · repeat (first | apply Wp.seqA | apply Wp.skipS | apply Wp.blockS | ((first | apply Wp.regS | apply Wp.condV | apply Wp.reg | apply Wp.condW | apply fin_ret); simp -implicitDefEqProofs (maxSteps := 2000000) (disch := first | exact tt_rfl rfl | omega | (simp only [go_sem] <;> omega) | fail) only [go_sem, hjl, htl, Int.ofNat_lt, List.getElem?_map, List.getElem?_eq_getElem hjl, Option.map_some, TurnA.av.eq_1, beq_self_eq_true, bne_self_eq_false] <;> try with_reducible rfl) | apply Wp.block | apply Wp.exitS | apply Wp.retS | apply Wp.exit | apply Wp.ret | apply Wp.skip)
            apply round_next
            · simp -implicitDefEqProofs (maxSteps := 2000000) (disch := first | exact tt_rfl rfl | omega | (simp only [go_sem] <;> omega) | fail) only [go_sem, norm_eq, Ok.some]; with_reducible rfl
            exact ⟨hjl, by simp, trivial⟩
          · repeat (first | apply Wp.seqA | apply Wp.skipS | apply Wp.blockS | ((first | apply Wp.regS | apply Wp.condV | apply Wp.reg | apply Wp.condW | apply fin_ret); simp -implicitDefEqProofs (maxSteps := 2000000) (disch := first | exact tt_rfl rfl | omega | (simp only [go_sem] <;> omega) | fail) only [go_sem, hjl, Int.ofNat_lt, kn] <;> try with_reducible rfl) | apply Wp.block | apply Wp.exitS | apply Wp.retS | apply Wp.exit | apply Wp.ret | apply Wp.skip)
    · rw [if_neg hbad] at eE
      subst eE
      obtain ⟨ek, et⟩ := vx (by omega) (by omega)
      subst ek
      subst et
      simp only [List.map_nil, List.length_nil]
      by_cases hlt : i < ws.length
      · repeat (first | apply Wp.seqA | apply Wp.skipS | apply Wp.blockS | ((first | apply Wp.regS | apply Wp.condV | apply Wp.reg | apply Wp.condW | apply fin_ret); simp -implicitDefEqProofs (maxSteps := 2000000) (disch := first | exact tt_rfl rfl | omega | (simp only [go_sem] <;> omega) | fail) only [go_sem, hlt, Int.ofNat_lt, kn, beq_self_eq_true, bne_self_eq_false, eq_true (show (([] : List AV).length : Int) = 0 from rfl), eq_true (show ((0 : Nat) : Int) = 0 from rfl)] <;> try with_reducible rfl) | apply Wp.block | apply Wp.exitS | apply Wp.retS | apply Wp.exit | apply Wp.ret | apply Wp.skip)
      · repeat (first | apply Wp.seqA | apply Wp.skipS | apply Wp.blockS | ((first | apply Wp.regS | apply Wp.condV | apply Wp.reg | apply Wp.condW | apply fin_ret); simp -implicitDefEqProofs (maxSteps := 2000000) (disch := first | exact tt_rfl rfl | omega | (simp only [go_sem] <;> omega) | fail) only [go_sem, hlt, Int.ofNat_lt, kn, beq_self_eq_true, bne_self_eq_false, eq_true (show (([] : List AV).length : Int) = 0 from rfl), eq_true (show ((0 : Nat) : Int) = 0 from rfl)] <;> try with_reducible rfl) | apply Wp.block | apply Wp.exitS | apply Wp.retS | apply Wp.exit | apply Wp.ret | apply Wp.skip)

theorem rolls_some (r : RollA) (w : Int) (ws : List Int) (hl : ¬ 25 < ws.length) (h : r.Ok) (hw : WeiOk w) (hx : bearLo r w < bearHi r w) : lim F 7 [r.av, iv w, .list 1 (ws.map fun n => iv n)] = some (.bool true, []) := by
  have kn := known_ok
  have o1 := ints_ok ws (by omega)
  have c1 := Roll_ok r
  have c2 := Bears_ok r w
  have c3 := Weights_ok r ws (by omega)
  have c4 := refInts_ok ws (by omega)
  have c5 := refRoll_ok r
  have c6 := refIn_ok w 1 100000
  rw [show rollE r = 0 from if_pos h] at c1
  rw [decide_eq_true h] at c5
  have eB : bearsE r w = 0 := by unfold bearsE; rw [if_pos h, if_pos hw, if_pos hx]
  have c7 := refBears_ok r w h hw.1 hw.2
  rw [eB, if_pos rfl, if_pos rfl] at c2
  rw [if_pos hx, if_pos hx, decide_eq_true hx] at c7
  rw [decide_eq_true hw] at c6
  generalize (bearLo r w : Int) = xl at c2 c7
  generalize (bearHi r w : Int) - 1 = xh at c2 c7
  have v0 : weiE r ws = 0 → weiK r ws = 0 ∧ weiT r ws = turnsW (holdsOf r ws) r.layers.toNat := by intro e; unfold weiK weiT; rw [e, if_neg (by omega), if_pos rfl]; exact ⟨rfl, rfl⟩
  have v9 : weiE r ws = 9 → weiK r ws = r.layers - 1 - covered (holdsOf r ws) r.layers ∧ weiT r ws = [] := by intro e; unfold weiK weiT; rw [e, if_pos rfl, if_neg (by omega)]; exact ⟨rfl, rfl⟩
  have vx : weiE r ws ≠ 0 → weiE r ws ≠ 9 → weiK r ws = 0 ∧ weiT r ws = [] := by intro e e'; unfold weiK weiT; rw [if_neg e', if_neg e]; exact ⟨rfl, rfl⟩
  by_cases h20 : 20 < ws.length
  · have eE : weiE r ws = 5 := by unfold weiE; rw [if_pos h, if_pos h20]
    obtain ⟨ek, et⟩ := vx (by omega) (by omega)
    rw [eE, ek, et, List.map_nil] at c3
    unfold RollA.av RollA.cells at *
    refine lim_by (fn := a7) (k := 3) (res := [.tmp 6]) rfl rfl rfl (by simp -implicitDefEqProofs (maxSteps := 2000000) (disch := first | exact tt_rfl rfl | omega | (simp only [go_sem] <;> omega) | fail) only [go_sem]) ?_
    simp -implicitDefEqProofs (maxSteps := 2000000) (disch := first | exact tt_rfl rfl | omega | (simp only [go_sem] <;> omega) | fail) only [go_sem]
    repeat (first | apply Wp.seqA | apply Wp.skipS | apply Wp.blockS | ((first | apply Wp.regS | apply Wp.condV | apply Wp.reg | apply Wp.condW | apply fin_ret); simp -implicitDefEqProofs (maxSteps := 2000000) (disch := first | exact tt_rfl rfl | omega | (simp only [go_sem] <;> omega) | fail) only [go_sem, hl, show ¬ (25 : Int) < ws.length by omega, show (20 : Int) < ws.length by omega, o1, c1, c2, c3, c4, c5, c6, c7, gt_iff_lt, beq_self_eq_true, bne_self_eq_false, eq_true (show (([] : List AV).length : Int) = 0 from rfl), eq_true (show ((0 : Nat) : Int) = 0 from rfl)] <;> try with_reducible rfl) | apply Wp.block | apply Wp.exitS | apply Wp.retS | apply Wp.exit | apply Wp.ret | apply Wp.skip)
    apply Wp.loopF 0 (fun i => ⟨[(2, .list 1 (ws.map fun n => iv n)), (3, .ptr 192 0 0), (11, .slice 704 0 0), (12, iv 0), (13, iv 5), (16, iv 5), (17, iv i)], [(192, .box [iv r.core, iv r.thick, iv r.layers, iv r.pulley, iv r.plo, iv r.phi]), (704, .arr 2 ([] : List AV))], [], 10000000⟩) (fun _ => True)
    · simp -implicitDefEqProofs (maxSteps := 2000000) (disch := first | exact tt_rfl rfl | omega | (simp only [go_sem] <;> omega) | fail) only [go_sem, norm_eq, Ok.some]
      rfl
    · trivial
    intro i hi _
    obtain rfl : i = 0 := by omega
    repeat (first | apply Wp.seqA | apply Wp.skipS | apply Wp.blockS | ((first | apply Wp.regS | apply Wp.condV | apply Wp.reg | apply Wp.condW | apply fin_ret); simp -implicitDefEqProofs (maxSteps := 2000000) (disch := first | exact tt_rfl rfl | omega | (simp only [go_sem] <;> omega) | fail) only [go_sem, show ((0 : Nat) : Int) < ws.length by omega, kn, beq_self_eq_true, bne_self_eq_false, eq_true (show ((0 : Nat) : Int) = 0 from rfl)] <;> try with_reducible rfl) | apply Wp.block | apply Wp.exitS | apply Wp.retS | apply Wp.exit | apply Wp.ret | apply Wp.skip)
  · have eE : weiE r ws = if ∀ w ∈ ws, WeiOk w then if covered (holdsOf r ws) r.layers < r.layers.toNat then 9 else 0 else 3 := by unfold weiE; rw [if_pos h, if_neg h20]
    have c8 := fun hw => refWeights_ok r ws h hw (by omega)
    have c9 := fun hw hc => refFewest_ok r ws h hw (by omega) hc
    have hcv := cover_all (hs := holdsOf r ws) (L := r.layers)
    have ci := fun w => refIn_ok w 1 100000
    have htn := turnsW_len (holdsOf r ws) r.layers.toNat
    have hlay := h.2.2.1
    generalize hwe : weiE r ws = we at *
    generalize hwk : weiK r ws = wk at *
    generalize htw : weiT r ws = tw at *
    have htl : (tw.map TurnA.av).length = tw.length := by simp
    unfold RollA.av RollA.cells at *
    refine lim_by (fn := a7) (k := 3) (res := [.tmp 6]) rfl rfl rfl (by simp -implicitDefEqProofs (maxSteps := 2000000) (disch := first | exact tt_rfl rfl | omega | (simp only [go_sem] <;> omega) | fail) only [go_sem]) ?_
    simp -implicitDefEqProofs (maxSteps := 2000000) (disch := first | exact tt_rfl rfl | omega | (simp only [go_sem] <;> omega) | fail) only [go_sem]
    repeat (first | apply Wp.seqA | apply Wp.skipS | apply Wp.blockS | ((first | apply Wp.regS | apply Wp.condV | apply Wp.reg | apply Wp.condW | apply fin_ret); simp -implicitDefEqProofs (maxSteps := 2000000) (disch := first | exact tt_rfl rfl | omega | (simp only [go_sem] <;> omega) | fail) only [go_sem, hl, show ¬ (25 : Int) < ws.length by omega, show ¬ (20 : Int) < ws.length by omega, o1, c1, c2, c3, c4, c5, c6, c7, htl, gt_iff_lt, beq_self_eq_true, bne_self_eq_false] <;> try with_reducible rfl) | apply Wp.block | apply Wp.exitS | apply Wp.retS | apply Wp.exit | apply Wp.ret | apply Wp.skip)
    apply Wp.loopN ws.length (fun i fr => ∃ want : Int, fr = ⟨[(2, .list 1 (ws.map fun n => iv n)), (3, .ptr 192 0 0), (11, .slice 704 0 tw.length), (12, iv wk), (13, iv we), (16, iv want), (17, iv i)], [(192, .box [iv r.core, iv r.thick, iv r.layers, iv r.pulley, iv r.plo, iv r.phi]), (704, .arr 2 (tw.map TurnA.av))], [], 10000000⟩ ∧ (want = 0 ∧ (∀ j (hj : j < ws.length), j < i → WeiOk ws[j]) ∨ want = 3 ∧ ¬ ∀ w ∈ ws, WeiOk w))
    · simp -implicitDefEqProofs (maxSteps := 2000000) (disch := first | exact tt_rfl rfl | omega | (simp only [go_sem] <;> omega) | fail) only [go_sem, norm_eq, Ok.some]
      exact ⟨0, rfl, .inl ⟨rfl, fun j hj h => by omega⟩⟩
    rintro i fr hi ⟨want, rfl, hwant⟩
    rcases hwant with ⟨rfl, hall⟩ | ⟨rfl, hbad⟩
    · by_cases hlt : i < ws.length
      · have cn := ci ws[i]
        by_cases hx : WeiOk ws[i]
        · rw [decide_eq_true hx] at cn
          repeat (first | apply Wp.seqA | apply Wp.skipS | apply Wp.blockS | ((first | apply Wp.regS | apply Wp.condV | apply Wp.reg | apply Wp.condW | apply fin_ret); simp -implicitDefEqProofs (maxSteps := 2000000) (disch := first | exact tt_rfl rfl | omega | (simp only [go_sem] <;> omega) | fail) only [go_sem, hlt, Int.ofNat_lt, List.getElem?_map, List.getElem?_eq_getElem hlt, Option.map_some, cn] <;> try with_reducible rfl) | apply Wp.block | apply Wp.exitS | apply Wp.retS | apply Wp.exit | apply Wp.ret | apply Wp.skip)
          apply round_next (Q := fun _ _ => False)
          · simp -implicitDefEqProofs (maxSteps := 2000000) (disch := first | exact tt_rfl rfl | omega | (simp only [go_sem] <;> omega) | fail) only [go_sem, norm_eq, Ok.some]; with_reducible rfl
          refine ⟨hlt, 0, by simp, .inl ⟨rfl, fun j hj hji => ?_⟩⟩
          by_cases e : j = i
          · subst e; exact hx
          · exact hall j hj (by omega)
        · rw [decide_eq_false hx] at cn
          repeat (first | apply Wp.seqA | apply Wp.skipS | apply Wp.blockS | ((first | apply Wp.regS | apply Wp.condV | apply Wp.reg | apply Wp.condW | apply fin_ret); simp -implicitDefEqProofs (maxSteps := 2000000) (disch := first | exact tt_rfl rfl | omega | (simp only [go_sem] <;> omega) | fail) only [go_sem, hlt, Int.ofNat_lt, List.getElem?_map, List.getElem?_eq_getElem hlt, Option.map_some, cn] <;> try with_reducible rfl) | apply Wp.block | apply Wp.exitS | apply Wp.retS | apply Wp.exit | apply Wp.ret | apply Wp.skip)
          apply round_next (Q := fun _ _ => False)
          · simp -implicitDefEqProofs (maxSteps := 2000000) (disch := first | exact tt_rfl rfl | omega | (simp only [go_sem] <;> omega) | fail) only [go_sem, norm_eq, Ok.some]; with_reducible rfl
          exact ⟨hlt, 3, by simp, .inr ⟨rfl, fun h => hx (h _ (List.getElem_mem hlt))⟩⟩
      · obtain rfl : i = ws.length := by omega
        have hok : ∀ w ∈ ws, WeiOk w := by
          intro y hy
          obtain ⟨j, hj, rfl⟩ := List.getElem_of_mem hy
          exact hall j hj hj
        have d8 := c8 hok
        rw [if_pos hok] at eE
        by_cases hcc : covered (holdsOf r ws) r.layers < r.layers.toNat
        · rw [if_pos hcc] at eE
          subst eE
          obtain ⟨ek, et⟩ := v9 rfl
          rw [if_pos hcc, if_pos hcc, decide_eq_false (fun h => h hcc), ← ek] at d8
          subst et
          simp only [List.map_nil, List.length_nil]
          repeat (first | apply Wp.seqA | apply Wp.skipS | apply Wp.blockS | ((first | apply Wp.regS | apply Wp.condV | apply Wp.reg | apply Wp.condW | apply fin_ret); simp -implicitDefEqProofs (maxSteps := 2000000) (disch := first | exact tt_rfl rfl | omega | (simp only [go_sem] <;> omega) | fail) only [go_sem, Int.lt_irrefl, d8, kn, beq_self_eq_true, bne_self_eq_false, eq_true (show (([] : List AV).length : Int) = 0 from rfl), eq_true (show ((0 : Nat) : Int) = 0 from rfl)] <;> try with_reducible rfl) | apply Wp.block | apply Wp.exitS | apply Wp.retS | apply Wp.exit | apply Wp.ret | apply Wp.skip)
        · rw [if_neg hcc] at eE
          subst eE
          obtain ⟨ek, et⟩ := v0 rfl
          subst ek
          rw [if_neg hcc, if_neg hcc, decide_eq_true hcc, ← et] at d8
          have d9 := c9 hok (hcv hcc)
          unfold fewF at d9
          rw [← et] at d9 htn
          repeat (first | apply Wp.seqA | apply Wp.skipS | apply Wp.blockS | ((first | apply Wp.regS | apply Wp.condV | apply Wp.reg | apply Wp.condW | apply fin_ret); simp -implicitDefEqProofs (maxSteps := 2000000) (disch := first | exact tt_rfl rfl | omega | (simp only [go_sem] <;> omega) | fail) only [go_sem, Int.lt_irrefl, d8, d9, htl, beq_self_eq_true, bne_self_eq_false] <;> try with_reducible rfl) | apply Wp.block | apply Wp.exitS | apply Wp.retS | apply Wp.exit | apply Wp.ret | apply Wp.skip)
          apply Wp.loopF tw.length (fun i => ⟨[(11, .slice 704 0 tw.length), (18, .slice 1152 0 tw.length), (21, iv i)], [(704, .arr 2 (tw.map TurnA.av)), (1152, .arr 2 (tw.map TurnA.av))], [], 10000000⟩) (fun _ => True)
          · simp -implicitDefEqProofs (maxSteps := 2000000) (disch := first | exact tt_rfl rfl | omega | (simp only [go_sem] <;> omega) | fail) only [go_sem, norm_eq, Ok.some]
            rfl
          · trivial
          intro j hj _
          by_cases hjl : j < tw.length
          · repeat (first | apply Wp.seqA | apply Wp.skipS | apply Wp.blockS | ((first | apply Wp.regS | apply Wp.condV | apply Wp.reg | apply Wp.condW | apply fin_ret); simp -implicitDefEqProofs (maxSteps := 2000000) (disch := first | exact tt_rfl rfl | omega | (simp only [go_sem] <;> omega) | fail) only [go_sem, hjl, htl, Int.ofNat_lt, List.getElem?_map, List.getElem?_eq_getElem hjl, Option.map_some, TurnA.av.eq_1, beq_self_eq_true, bne_self_eq_false] <;> try with_reducible rfl) | apply Wp.block | apply Wp.exitS | apply Wp.retS | apply Wp.exit | apply Wp.ret | apply Wp.skip)
            apply round_next
            · simp -implicitDefEqProofs (maxSteps := 2000000) (disch := first | exact tt_rfl rfl | omega | (simp only [go_sem] <;> omega) | fail) only [go_sem, norm_eq, Ok.some]; with_reducible rfl
            exact ⟨hjl, by simp, trivial⟩
          · repeat (first | apply Wp.seqA | apply Wp.skipS | apply Wp.blockS | ((first | apply Wp.regS | apply Wp.condV | apply Wp.reg | apply Wp.condW | apply fin_ret); simp -implicitDefEqProofs (maxSteps := 2000000) (disch := first | exact tt_rfl rfl | omega | (simp only [go_sem] <;> omega) | fail) only [go_sem, hjl, Int.ofNat_lt, kn] <;> try with_reducible rfl) | apply Wp.block | apply Wp.exitS | apply Wp.retS | apply Wp.exit | apply Wp.ret | apply Wp.skip)
    · rw [if_neg hbad] at eE
      subst eE
      obtain ⟨ek, et⟩ := vx (by omega) (by omega)
      subst ek
      subst et
      simp only [List.map_nil, List.length_nil]
      by_cases hlt : i < ws.length
      · repeat (first | apply Wp.seqA | apply Wp.skipS | apply Wp.blockS | ((first | apply Wp.regS | apply Wp.condV | apply Wp.reg | apply Wp.condW | apply fin_ret); simp -implicitDefEqProofs (maxSteps := 2000000) (disch := first | exact tt_rfl rfl | omega | (simp only [go_sem] <;> omega) | fail) only [go_sem, hlt, Int.ofNat_lt, kn, beq_self_eq_true, bne_self_eq_false, eq_true (show (([] : List AV).length : Int) = 0 from rfl), eq_true (show ((0 : Nat) : Int) = 0 from rfl)] <;> try with_reducible rfl) | apply Wp.block | apply Wp.exitS | apply Wp.retS | apply Wp.exit | apply Wp.ret | apply Wp.skip)
      · repeat (first | apply Wp.seqA | apply Wp.skipS | apply Wp.blockS | ((first | apply Wp.regS | apply Wp.condV | apply Wp.reg | apply Wp.condW | apply fin_ret); simp -implicitDefEqProofs (maxSteps := 2000000) (disch := first | exact tt_rfl rfl | omega | (simp only [go_sem] <;> omega) | fail) only [go_sem, hlt, Int.ofNat_lt, kn, beq_self_eq_true, bne_self_eq_false, eq_true (show (([] : List AV).length : Int) = 0 from rfl), eq_true (show ((0 : Nat) : Int) = 0 from rfl)] <;> try with_reducible rfl) | apply Wp.block | apply Wp.exitS | apply Wp.retS | apply Wp.exit | apply Wp.ret | apply Wp.skip)

theorem rolls_empty (r : RollA) (w : Int) (ws : List Int) (hl : ¬ 25 < ws.length) (h : r.Ok) (hw : WeiOk w) (hx : ¬ bearLo r w < bearHi r w) : lim F 7 [r.av, iv w, .list 1 (ws.map fun n => iv n)] = some (.bool true, []) := by
  have kn := known_ok
  have o1 := ints_ok ws (by omega)
  have c1 := Roll_ok r
  have c2 := Bears_ok r w
  have c3 := Weights_ok r ws (by omega)
  have c4 := refInts_ok ws (by omega)
  have c5 := refRoll_ok r
  have c6 := refIn_ok w 1 100000
  rw [show rollE r = 0 from if_pos h] at c1
  rw [decide_eq_true h] at c5
  have eB : bearsE r w = 7 := by unfold bearsE; rw [if_pos h, if_pos hw, if_neg hx]
  have c7 := refBears_ok r w h hw.1 hw.2
  rw [eB, if_neg (by omega), if_neg (by omega)] at c2
  rw [if_neg hx, if_neg hx, decide_eq_false hx] at c7
  rw [decide_eq_true hw] at c6
  have v0 : weiE r ws = 0 → weiK r ws = 0 ∧ weiT r ws = turnsW (holdsOf r ws) r.layers.toNat := by intro e; unfold weiK weiT; rw [e, if_neg (by omega), if_pos rfl]; exact ⟨rfl, rfl⟩
  have v9 : weiE r ws = 9 → weiK r ws = r.layers - 1 - covered (holdsOf r ws) r.layers ∧ weiT r ws = [] := by intro e; unfold weiK weiT; rw [e, if_pos rfl, if_neg (by omega)]; exact ⟨rfl, rfl⟩
  have vx : weiE r ws ≠ 0 → weiE r ws ≠ 9 → weiK r ws = 0 ∧ weiT r ws = [] := by intro e e'; unfold weiK weiT; rw [if_neg e', if_neg e]; exact ⟨rfl, rfl⟩
  by_cases h20 : 20 < ws.length
  · have eE : weiE r ws = 5 := by unfold weiE; rw [if_pos h, if_pos h20]
    obtain ⟨ek, et⟩ := vx (by omega) (by omega)
    rw [eE, ek, et, List.map_nil] at c3
    unfold RollA.av RollA.cells at *
    refine lim_by (fn := a7) (k := 3) (res := [.tmp 6]) rfl rfl rfl (by simp -implicitDefEqProofs (maxSteps := 2000000) (disch := first | exact tt_rfl rfl | omega | (simp only [go_sem] <;> omega) | fail) only [go_sem]) ?_
    simp -implicitDefEqProofs (maxSteps := 2000000) (disch := first | exact tt_rfl rfl | omega | (simp only [go_sem] <;> omega) | fail) only [go_sem]
    repeat (first | apply Wp.seqA | apply Wp.skipS | apply Wp.blockS | ((first | apply Wp.regS | apply Wp.condV | apply Wp.reg | apply Wp.condW | apply fin_ret); simp -implicitDefEqProofs (maxSteps := 2000000) (disch := first | exact tt_rfl rfl | omega | (simp only [go_sem] <;> omega) | fail) only [go_sem, hl, show ¬ (25 : Int) < ws.length by omega, show (20 : Int) < ws.length by omega, o1, c1, c2, c3, c4, c5, c6, c7, gt_iff_lt, beq_self_eq_true, bne_self_eq_false, eq_true (show (([] : List AV).length : Int) = 0 from rfl), eq_true (show ((0 : Nat) : Int) = 0 from rfl)] <;> try with_reducible rfl) | apply Wp.block | apply Wp.exitS | apply Wp.retS | apply Wp.exit | apply Wp.ret | apply Wp.skip)
    apply Wp.loopF 0 (fun i => ⟨[(2, .list 1 (ws.map fun n => iv n)), (3, .ptr 192 0 0), (11, .slice 704 0 0), (12, iv 0), (13, iv 5), (16, iv 5), (17, iv i)], [(192, .box [iv r.core, iv r.thick, iv r.layers, iv r.pulley, iv r.plo, iv r.phi]), (704, .arr 2 ([] : List AV))], [], 10000000⟩) (fun _ => True)
    · simp -implicitDefEqProofs (maxSteps := 2000000) (disch := first | exact tt_rfl rfl | omega | (simp only [go_sem] <;> omega) | fail) only [go_sem, norm_eq, Ok.some]
      rfl
    · trivial
    intro i hi _
    obtain rfl : i = 0 := by omega
    repeat (first | apply Wp.seqA | apply Wp.skipS | apply Wp.blockS | ((first | apply Wp.regS | apply Wp.condV | apply Wp.reg | apply Wp.condW | apply fin_ret); simp -implicitDefEqProofs (maxSteps := 2000000) (disch := first | exact tt_rfl rfl | omega | (simp only [go_sem] <;> omega) | fail) only [go_sem, show ((0 : Nat) : Int) < ws.length by omega, kn, beq_self_eq_true, bne_self_eq_false, eq_true (show ((0 : Nat) : Int) = 0 from rfl)] <;> try with_reducible rfl) | apply Wp.block | apply Wp.exitS | apply Wp.retS | apply Wp.exit | apply Wp.ret | apply Wp.skip)
  · have eE : weiE r ws = if ∀ w ∈ ws, WeiOk w then if covered (holdsOf r ws) r.layers < r.layers.toNat then 9 else 0 else 3 := by unfold weiE; rw [if_pos h, if_neg h20]
    have c8 := fun hw => refWeights_ok r ws h hw (by omega)
    have c9 := fun hw hc => refFewest_ok r ws h hw (by omega) hc
    have hcv := cover_all (hs := holdsOf r ws) (L := r.layers)
    have ci := fun w => refIn_ok w 1 100000
    have htn := turnsW_len (holdsOf r ws) r.layers.toNat
    have hlay := h.2.2.1
    generalize hwe : weiE r ws = we at *
    generalize hwk : weiK r ws = wk at *
    generalize htw : weiT r ws = tw at *
    have htl : (tw.map TurnA.av).length = tw.length := by simp
    unfold RollA.av RollA.cells at *
    refine lim_by (fn := a7) (k := 3) (res := [.tmp 6]) rfl rfl rfl (by simp -implicitDefEqProofs (maxSteps := 2000000) (disch := first | exact tt_rfl rfl | omega | (simp only [go_sem] <;> omega) | fail) only [go_sem]) ?_
    simp -implicitDefEqProofs (maxSteps := 2000000) (disch := first | exact tt_rfl rfl | omega | (simp only [go_sem] <;> omega) | fail) only [go_sem]
    repeat (first | apply Wp.seqA | apply Wp.skipS | apply Wp.blockS | ((first | apply Wp.regS | apply Wp.condV | apply Wp.reg | apply Wp.condW | apply fin_ret); simp -implicitDefEqProofs (maxSteps := 2000000) (disch := first | exact tt_rfl rfl | omega | (simp only [go_sem] <;> omega) | fail) only [go_sem, hl, show ¬ (25 : Int) < ws.length by omega, show ¬ (20 : Int) < ws.length by omega, o1, c1, c2, c3, c4, c5, c6, c7, htl, gt_iff_lt, beq_self_eq_true, bne_self_eq_false] <;> try with_reducible rfl) | apply Wp.block | apply Wp.exitS | apply Wp.retS | apply Wp.exit | apply Wp.ret | apply Wp.skip)
    apply Wp.loopN ws.length (fun i fr => ∃ want : Int, fr = ⟨[(2, .list 1 (ws.map fun n => iv n)), (3, .ptr 192 0 0), (11, .slice 704 0 tw.length), (12, iv wk), (13, iv we), (16, iv want), (17, iv i)], [(192, .box [iv r.core, iv r.thick, iv r.layers, iv r.pulley, iv r.plo, iv r.phi]), (704, .arr 2 (tw.map TurnA.av))], [], 10000000⟩ ∧ (want = 0 ∧ (∀ j (hj : j < ws.length), j < i → WeiOk ws[j]) ∨ want = 3 ∧ ¬ ∀ w ∈ ws, WeiOk w))
    · simp -implicitDefEqProofs (maxSteps := 2000000) (disch := first | exact tt_rfl rfl | omega | (simp only [go_sem] <;> omega) | fail) only [go_sem, norm_eq, Ok.some]
      exact ⟨0, rfl, .inl ⟨rfl, fun j hj h => by omega⟩⟩
    rintro i fr hi ⟨want, rfl, hwant⟩
    rcases hwant with ⟨rfl, hall⟩ | ⟨rfl, hbad⟩
    · by_cases hlt : i < ws.length
      · have cn := ci ws[i]
        by_cases hx : WeiOk ws[i]
        · rw [decide_eq_true hx] at cn
          repeat (first | apply Wp.seqA | apply Wp.skipS | apply Wp.blockS | ((first | apply Wp.regS | apply Wp.condV | apply Wp.reg | apply Wp.condW | apply fin_ret); simp -implicitDefEqProofs (maxSteps := 2000000) (disch := first | exact tt_rfl rfl | omega | (simp only [go_sem] <;> omega) | fail) only [go_sem, hlt, Int.ofNat_lt, List.getElem?_map, List.getElem?_eq_getElem hlt, Option.map_some, cn] <;> try with_reducible rfl) | apply Wp.block | apply Wp.exitS | apply Wp.retS | apply Wp.exit | apply Wp.ret | apply Wp.skip)
          apply round_next (Q := fun _ _ => False)
          · simp -implicitDefEqProofs (maxSteps := 2000000) (disch := first | exact tt_rfl rfl | omega | (simp only [go_sem] <;> omega) | fail) only [go_sem, norm_eq, Ok.some]; with_reducible rfl
          refine ⟨hlt, 0, by simp, .inl ⟨rfl, fun j hj hji => ?_⟩⟩
          by_cases e : j = i
          · subst e; exact hx
          · exact hall j hj (by omega)
        · rw [decide_eq_false hx] at cn
          repeat (first | apply Wp.seqA | apply Wp.skipS | apply Wp.blockS | ((first | apply Wp.regS | apply Wp.condV | apply Wp.reg | apply Wp.condW | apply fin_ret); simp -implicitDefEqProofs (maxSteps := 2000000) (disch := first | exact tt_rfl rfl | omega | (simp only [go_sem] <;> omega) | fail) only [go_sem, hlt, Int.ofNat_lt, List.getElem?_map, List.getElem?_eq_getElem hlt, Option.map_some, cn] <;> try with_reducible rfl) | apply Wp.block | apply Wp.exitS | apply Wp.retS | apply Wp.exit | apply Wp.ret | apply Wp.skip)
          apply round_next (Q := fun _ _ => False)
          · simp -implicitDefEqProofs (maxSteps := 2000000) (disch := first | exact tt_rfl rfl | omega | (simp only [go_sem] <;> omega) | fail) only [go_sem, norm_eq, Ok.some]; with_reducible rfl
          exact ⟨hlt, 3, by simp, .inr ⟨rfl, fun h => hx (h _ (List.getElem_mem hlt))⟩⟩
      · obtain rfl : i = ws.length := by omega
        have hok : ∀ w ∈ ws, WeiOk w := by
          intro y hy
          obtain ⟨j, hj, rfl⟩ := List.getElem_of_mem hy
          exact hall j hj hj
        have d8 := c8 hok
        rw [if_pos hok] at eE
        by_cases hcc : covered (holdsOf r ws) r.layers < r.layers.toNat
        · rw [if_pos hcc] at eE
          subst eE
          obtain ⟨ek, et⟩ := v9 rfl
          rw [if_pos hcc, if_pos hcc, decide_eq_false (fun h => h hcc), ← ek] at d8
          subst et
          simp only [List.map_nil, List.length_nil]
          repeat (first | apply Wp.seqA | apply Wp.skipS | apply Wp.blockS | ((first | apply Wp.regS | apply Wp.condV | apply Wp.reg | apply Wp.condW | apply fin_ret); simp -implicitDefEqProofs (maxSteps := 2000000) (disch := first | exact tt_rfl rfl | omega | (simp only [go_sem] <;> omega) | fail) only [go_sem, Int.lt_irrefl, d8, kn, beq_self_eq_true, bne_self_eq_false, eq_true (show (([] : List AV).length : Int) = 0 from rfl), eq_true (show ((0 : Nat) : Int) = 0 from rfl)] <;> try with_reducible rfl) | apply Wp.block | apply Wp.exitS | apply Wp.retS | apply Wp.exit | apply Wp.ret | apply Wp.skip)
        · rw [if_neg hcc] at eE
          subst eE
          obtain ⟨ek, et⟩ := v0 rfl
          subst ek
          rw [if_neg hcc, if_neg hcc, decide_eq_true hcc, ← et] at d8
          have d9 := c9 hok (hcv hcc)
          unfold fewF at d9
          rw [← et] at d9 htn
          repeat (first | apply Wp.seqA | apply Wp.skipS | apply Wp.blockS | ((first | apply Wp.regS | apply Wp.condV | apply Wp.reg | apply Wp.condW | apply fin_ret); simp -implicitDefEqProofs (maxSteps := 2000000) (disch := first | exact tt_rfl rfl | omega | (simp only [go_sem] <;> omega) | fail) only [go_sem, Int.lt_irrefl, d8, d9, htl, beq_self_eq_true, bne_self_eq_false] <;> try with_reducible rfl) | apply Wp.block | apply Wp.exitS | apply Wp.retS | apply Wp.exit | apply Wp.ret | apply Wp.skip)
          apply Wp.loopF tw.length (fun i => ⟨[(11, .slice 704 0 tw.length), (18, .slice 1152 0 tw.length), (21, iv i)], [(704, .arr 2 (tw.map TurnA.av)), (1152, .arr 2 (tw.map TurnA.av))], [], 10000000⟩) (fun _ => True)
          · simp -implicitDefEqProofs (maxSteps := 2000000) (disch := first | exact tt_rfl rfl | omega | (simp only [go_sem] <;> omega) | fail) only [go_sem, norm_eq, Ok.some]
            rfl
          · trivial
          intro j hj _
          by_cases hjl : j < tw.length
          · repeat (first | apply Wp.seqA | apply Wp.skipS | apply Wp.blockS | ((first | apply Wp.regS | apply Wp.condV | apply Wp.reg | apply Wp.condW | apply fin_ret); simp -implicitDefEqProofs (maxSteps := 2000000) (disch := first | exact tt_rfl rfl | omega | (simp only [go_sem] <;> omega) | fail) only [go_sem, hjl, htl, Int.ofNat_lt, List.getElem?_map, List.getElem?_eq_getElem hjl, Option.map_some, TurnA.av.eq_1, beq_self_eq_true, bne_self_eq_false] <;> try with_reducible rfl) | apply Wp.block | apply Wp.exitS | apply Wp.retS | apply Wp.exit | apply Wp.ret | apply Wp.skip)
            apply round_next
            · simp -implicitDefEqProofs (maxSteps := 2000000) (disch := first | exact tt_rfl rfl | omega | (simp only [go_sem] <;> omega) | fail) only [go_sem, norm_eq, Ok.some]; with_reducible rfl
            exact ⟨hjl, by simp, trivial⟩
          · repeat (first | apply Wp.seqA | apply Wp.skipS | apply Wp.blockS | ((first | apply Wp.regS | apply Wp.condV | apply Wp.reg | apply Wp.condW | apply fin_ret); simp -implicitDefEqProofs (maxSteps := 2000000) (disch := first | exact tt_rfl rfl | omega | (simp only [go_sem] <;> omega) | fail) only [go_sem, hjl, Int.ofNat_lt, kn] <;> try with_reducible rfl) | apply Wp.block | apply Wp.exitS | apply Wp.retS | apply Wp.exit | apply Wp.ret | apply Wp.skip)
    · rw [if_neg hbad] at eE
      subst eE
      obtain ⟨ek, et⟩ := vx (by omega) (by omega)
      subst ek
      subst et
      simp only [List.map_nil, List.length_nil]
      by_cases hlt : i < ws.length
      · repeat (first | apply Wp.seqA | apply Wp.skipS | apply Wp.blockS | ((first | apply Wp.regS | apply Wp.condV | apply Wp.reg | apply Wp.condW | apply fin_ret); simp -implicitDefEqProofs (maxSteps := 2000000) (disch := first | exact tt_rfl rfl | omega | (simp only [go_sem] <;> omega) | fail) only [go_sem, hlt, Int.ofNat_lt, kn, beq_self_eq_true, bne_self_eq_false, eq_true (show (([] : List AV).length : Int) = 0 from rfl), eq_true (show ((0 : Nat) : Int) = 0 from rfl)] <;> try with_reducible rfl) | apply Wp.block | apply Wp.exitS | apply Wp.retS | apply Wp.exit | apply Wp.ret | apply Wp.skip)
      · repeat (first | apply Wp.seqA | apply Wp.skipS | apply Wp.blockS | ((first | apply Wp.regS | apply Wp.condV | apply Wp.reg | apply Wp.condW | apply fin_ret); simp -implicitDefEqProofs (maxSteps := 2000000) (disch := first | exact tt_rfl rfl | omega | (simp only [go_sem] <;> omega) | fail) only [go_sem, hlt, Int.ofNat_lt, kn, beq_self_eq_true, bne_self_eq_false, eq_true (show (([] : List AV).length : Int) = 0 from rfl), eq_true (show ((0 : Nat) : Int) = 0 from rfl)] <;> try with_reducible rfl) | apply Wp.block | apply Wp.exitS | apply Wp.retS | apply Wp.exit | apply Wp.ret | apply Wp.skip)

theorem beamRolls_ok (r : RollA) (w : Int) (ws : List Int) : lim F 7 [r.av, iv w, .list 1 (ws.map fun n => iv n)] = some (.bool true, []) := by
  by_cases hl : 25 < ws.length
  · have kn := known_ok
    unfold RollA.av RollA.cells
    refine lim_by (fn := a7) (k := 3) (res := [.tmp 6]) rfl rfl rfl (by simp -implicitDefEqProofs (maxSteps := 2000000) (disch := first | exact tt_rfl rfl | omega | (simp only [go_sem] <;> omega) | fail) only [go_sem]) ?_
    simp -implicitDefEqProofs (maxSteps := 2000000) (disch := first | exact tt_rfl rfl | omega | (simp only [go_sem] <;> omega) | fail) only [go_sem]
    repeat (first | apply Wp.seqA | apply Wp.skipS | apply Wp.blockS | ((first | apply Wp.regS | apply Wp.condV | apply Wp.reg | apply Wp.condW | apply fin_ret); simp -implicitDefEqProofs (maxSteps := 2000000) (disch := first | exact tt_rfl rfl | omega | (simp only [go_sem] <;> omega) | fail) only [go_sem, show (25 : Int) < ws.length by omega, gt_iff_lt, kn] <;> try with_reducible rfl) | apply Wp.block | apply Wp.exitS | apply Wp.retS | apply Wp.exit | apply Wp.ret | apply Wp.skip)
  by_cases h : r.Ok
  · by_cases hw : WeiOk w
    · by_cases hx : bearLo r w < bearHi r w
      · exact rolls_some r w ws hl h hw hx
      · exact rolls_empty r w ws hl h hw hx
    · exact rolls_none r w ws hl h hw
  · have kn := known_ok
    have o1 := ints_ok ws (by omega)
    have c1 := Roll_ok r
    have c2 := Bears_ok r w
    have c3 := Weights_ok r ws (by omega)
    have c4 := refInts_ok ws (by omega)
    have c5 := refRoll_ok r
    rw [show rollE r = 2 from if_neg h] at c1
    have e1 : bearsE r w = 2 := by unfold bearsE; rw [if_neg h]
    have e2 : weiE r ws = 2 := by unfold weiE; rw [if_neg h]
    unfold weiT weiK at c3
    rw [e1, if_neg (by omega), if_neg (by omega)] at c2
    rw [e2, if_neg (by omega), if_neg (by omega), List.map_nil] at c3
    rw [decide_eq_false h] at c5
    unfold RollA.av RollA.cells at *
    refine lim_by (fn := a7) (k := 3) (res := [.tmp 6]) rfl rfl rfl (by simp -implicitDefEqProofs (maxSteps := 2000000) (disch := first | exact tt_rfl rfl | omega | (simp only [go_sem] <;> omega) | fail) only [go_sem]) ?_
    simp -implicitDefEqProofs (maxSteps := 2000000) (disch := first | exact tt_rfl rfl | omega | (simp only [go_sem] <;> omega) | fail) only [go_sem]
    repeat (first | apply Wp.seqA | apply Wp.skipS | apply Wp.blockS | ((first | apply Wp.regS | apply Wp.condV | apply Wp.reg | apply Wp.condW | apply fin_ret); simp -implicitDefEqProofs (maxSteps := 2000000) (disch := first | exact tt_rfl rfl | omega | (simp only [go_sem] <;> omega) | fail) only [go_sem, show ¬ (25 : Int) < ws.length by omega, gt_iff_lt, o1, c1, c2, c3, c4, c5, kn, beq_self_eq_true, bne_self_eq_false, eq_true (show (([] : List AV).length : Int) = 0 from rfl), eq_true (show ((0 : Nat) : Int) = 0 from rfl)] <;> try with_reducible rfl) | apply Wp.block | apply Wp.exitS | apply Wp.retS | apply Wp.exit | apply Wp.ret | apply Wp.skip)
end Go.Abs
