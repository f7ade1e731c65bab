/-
  Chapter 7: the statement SeamShows returns true.
-/
import Derived.Test.YtfokmdhmaabegaaS15
import Derived.Test.YtfokmdhmaabegaaKnown
set_option linter.all false
namespace Go.Abs
set_option maxRecDepth 10000
set_option maxHeartbeats 4000000

theorem seamShows_ok (x : PairA) (edge ahead : Int) : lim F 6 [x.av, iv edge, iv ahead] = some (.bool true, []) := by
  have hlg := large_ok x
  have hkn := known_ok
  by_cases h : x.Large
  · rw [decide_eq_true h] at hlg
    refine lim_by (fn := a6) (k := 3) (res := [.tmp 6]) rfl rfl rfl (by simp -implicitDefEqProofs (maxSteps := 2000000) (disch := first | exact tt_rfl rfl | omega | (simp only [go_sem] <;> omega)) only [go_sem, PairA.av.eq_1]) ?_
    simp -implicitDefEqProofs (maxSteps := 2000000) (disch := first | exact tt_rfl rfl | omega | (simp only [go_sem] <;> omega)) only [go_sem, PairA.av.eq_1]
    simp only [PairA.av] at hlg
    repeat (first | apply Wp.seqA | apply Wp.skipS | apply Wp.blockS | ((first | apply Wp.regS | apply Wp.condV | apply Wp.reg | apply Wp.condW | apply fin_ret); simp -implicitDefEqProofs (maxSteps := 2000000) (disch := first | exact tt_rfl rfl | omega | (simp only [go_sem] <;> omega)) only [go_sem, hlg, hkn] <;> try with_reducible rfl) | apply Wp.block | apply Wp.exitS | apply Wp.retS | apply Wp.exit | apply Wp.ret | apply Wp.skip)
  · rw [decide_eq_false h] at hlg
    have hcp := copied_ok x h
    have his := is_ok x h
    have hop := refOpen_ok x.a x.b x.marks (by omega)
    have hE := Show_err x.a x.b x.marks edge ahead
    simp only [PairA.av] at hlg hcp his ⊢
    by_cases o : openE x.a x.b x.marks = 0
    · obtain ⟨p0, _, _, _, k1, k2⟩ := openE_zero o
      obtain ⟨h1, h2, h3, h4⟩ := pairL_ok p0
      have hpk := Picks_ok x.a (checkL_zero h1).1 (checkL_zero h1).2.1
      rw [← widths_length (checkL_zero h1).2.1] at hpk
      have hn := (widths_small h1).1
      have hI := In_ok edge 0 (widthsL x.a).length
      have hra := refAhead_ok x.a x.b x.marks (by omega) h1 h2 h3 (.tuple [.own 2 ((openL x.a x.b x.marks).map Span.av), .bool true]) (fun _ => by rw [k2]) fun k q1 q2 => absurd q2 (k1 k q1)
      rw [o] at hop
      by_cases c : 0 ≤ edge ∧ edge ≤ (widthsL x.a).length
      · rw [decide_eq_true c] at hI
        have hge : (openL x.a x.b x.marks)[edge.toNat]? = some (at' (openL x.a x.b x.marks) edge.toNat) := at'_eq (by rw [k2]; simp; omega)
        have hel : edge < (openL x.a x.b x.marks).length := by rw [k2]; simp; omega
        have hI2 := In_ok ahead (at' (openL x.a x.b x.marks) edge.toNat).lo (at' (openL x.a x.b x.marks) edge.toNat).hi
        have hc := c.1
        by_cases d : (at' (openL x.a x.b x.marks) edge.toNat).lo ≤ ahead ∧ ahead ≤ (at' (openL x.a x.b x.marks) edge.toNat).hi
        · rw [decide_eq_true d] at hI2
          obtain ⟨r, hr, t, rfl, tk⟩ := Show_ok x.a x.b x.marks edge.toNat ahead (by omega) o (by omega) d
          rw [show ((edge.toNat : Nat) : Int) = edge by omega] at hr
          have hrun := refRun_ok x.a x.b x.marks t (by omega) h1 h2 h3 (.tuple [.own 1 (((List.range ((widthsL x.a).length + 1)).map (ahT t.a t.b)).map fun n => iv n), iv 0])
            ⟨fun q => absurd ⟨tk.la, tk.lb⟩ q, fun _ _ i hi q => absurd (tk.fit i hi) q, fun _ _ _ i hi hm q => absurd (tk.marks i hi hm) q, fun _ _ _ _ => rfl⟩
          have hed : ((List.range ((widthsL x.a).length + 1)).map (ahT t.a t.b))[edge.toNat]? = some ahead := by
            rw [List.getElem?_map, List.getElem?_range (by omega)]; simp [tk.edge]
          simp only [TruthA.av] at hrun
          clear tk hE k1 k2
          refine lim_by (fn := a6) (k := 3) (res := [.tmp 6]) rfl rfl rfl (by simp -implicitDefEqProofs (maxSteps := 2000000) (disch := first | exact tt_rfl rfl | omega | (simp only [go_sem] <;> omega)) only [go_sem]) ?_
          simp -implicitDefEqProofs (maxSteps := 2000000) (disch := first | exact tt_rfl rfl | omega | (simp only [go_sem] <;> omega)) only [go_sem]
          repeat (first | apply Wp.seqA | apply Wp.skipS | apply Wp.blockS | ((first | apply Wp.regS | apply Wp.condV | apply Wp.reg | apply Wp.condW | apply fin_ret); simp -implicitDefEqProofs (maxSteps := 2000000) (disch := first | exact tt_rfl rfl | omega | (simp only [go_sem] <;> omega)) only [go_sem, hlg, hkn, hcp, his, hop, hr, hpk, hI, hra, hge, hel, hc, List.getElem?_map, Option.map_some, Span.av.eq_1, hI2, hrun, hed] <;> try with_reducible rfl) | apply Wp.block | apply Wp.exitS | apply Wp.retS | apply Wp.exit | apply Wp.ret | apply Wp.skip)
        · rw [decide_eq_false d] at hI2
          have hE := hE 7 (by omega) (fun q => absurd o q) (fun _ q => absurd c q) (fun _ _ _ => ⟨rfl, d⟩)
          clear k1 k2
          refine lim_by (fn := a6) (k := 3) (res := [.tmp 6]) rfl rfl rfl (by simp -implicitDefEqProofs (maxSteps := 2000000) (disch := first | exact tt_rfl rfl | omega | (simp only [go_sem] <;> omega)) only [go_sem]) ?_
          simp -implicitDefEqProofs (maxSteps := 2000000) (disch := first | exact tt_rfl rfl | omega | (simp only [go_sem] <;> omega)) only [go_sem]
          repeat (first | apply Wp.seqA | apply Wp.skipS | apply Wp.blockS | ((first | apply Wp.regS | apply Wp.condV | apply Wp.reg | apply Wp.condW | apply fin_ret); simp -implicitDefEqProofs (maxSteps := 2000000) (disch := first | exact tt_rfl rfl | omega | (simp only [go_sem] <;> omega)) only [go_sem, hlg, hkn, hcp, his, hop, hE, hpk, hI, hra, hge, hel, hc, List.getElem?_map, Option.map_some, Span.av.eq_1, hI2] <;> try with_reducible rfl) | apply Wp.block | apply Wp.exitS | apply Wp.retS | apply Wp.exit | apply Wp.ret | apply Wp.skip)
      · rw [decide_eq_false c] at hI
        have hE := hE 3 (by omega) (fun q => absurd o q) (fun _ _ => rfl) (fun _ q1 q2 => absurd ⟨q1, q2⟩ c)
        clear k1 k2
        refine lim_by (fn := a6) (k := 3) (res := [.tmp 6]) rfl rfl rfl (by simp -implicitDefEqProofs (maxSteps := 2000000) (disch := first | exact tt_rfl rfl | omega | (simp only [go_sem] <;> omega)) only [go_sem]) ?_
        simp -implicitDefEqProofs (maxSteps := 2000000) (disch := first | exact tt_rfl rfl | omega | (simp only [go_sem] <;> omega)) only [go_sem]
        repeat (first | apply Wp.seqA | apply Wp.skipS | apply Wp.blockS | ((first | apply Wp.regS | apply Wp.condV | apply Wp.reg | apply Wp.condW | apply fin_ret); simp -implicitDefEqProofs (maxSteps := 2000000) (disch := first | exact tt_rfl rfl | omega | (simp only [go_sem] <;> omega)) only [go_sem, hlg, hkn, hcp, his, hop, hE, hpk, hI, hra] <;> try with_reducible rfl) | apply Wp.block | apply Wp.exitS | apply Wp.retS | apply Wp.exit | apply Wp.ret | apply Wp.skip)
    · have hE := hE (openE x.a x.b x.marks) (by omega) (fun _ => rfl) (fun q => absurd q o) (fun q => absurd q o)
      refine lim_by (fn := a6) (k := 3) (res := [.tmp 6]) rfl rfl rfl (by simp -implicitDefEqProofs (maxSteps := 2000000) (disch := first | exact tt_rfl rfl | omega | (simp only [go_sem] <;> omega)) only [go_sem]) ?_
      simp -implicitDefEqProofs (maxSteps := 2000000) (disch := first | exact tt_rfl rfl | omega | (simp only [go_sem] <;> omega)) only [go_sem]
      repeat (first | apply Wp.seqA | apply Wp.skipS | apply Wp.blockS | ((first | apply Wp.regS | apply Wp.condV | apply Wp.reg | apply Wp.condW | apply fin_ret); simp -implicitDefEqProofs (maxSteps := 2000000) (disch := first | exact tt_rfl rfl | omega | (simp only [go_sem] <;> omega)) only [go_sem, hlg, hkn, hcp, his, hop, hE, o] <;> try with_reducible rfl) | apply Wp.block | apply Wp.exitS | apply Wp.retS | apply Wp.exit | apply Wp.ret | apply Wp.skip)
end Go.Abs
