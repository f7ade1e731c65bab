/-
  Chapter 7: the statement SeamAheads returns true at every pair of lengths and marks.
-/
import Derived.Test.YtfokmdhmaabegaaS7
import Derived.Test.YtfokmdhmaabegaaKnown
set_option linter.all false
namespace Go.Abs
set_option maxRecDepth 10000
set_option maxHeartbeats 4000000

theorem seamAheads_ok (x : PairA) : lim F 3 [x.av] = some (.bool true, []) := by
  have hlg := large_ok x
  have hkn := known_ok
  by_cases h : x.Large
  · rw [decide_eq_true h] at hlg
    refine lim_by (fn := a3) (k := 1) (res := [.tmp 2]) rfl rfl rfl (by simp -implicitDefEqProofs (maxSteps := 2000000) (disch := first | exact tt_rfl rfl | omega | (simp only [go_sem, List.length_range, List.length_replicate, List.length_set, List.length_take, List.length_drop] <;> omega) | fail) only [go_sem, PairA.av]) ?_
    simp -implicitDefEqProofs (maxSteps := 2000000) (disch := first | exact tt_rfl rfl | omega | (simp only [go_sem, List.length_range, List.length_replicate, List.length_set, List.length_take, List.length_drop] <;> omega) | fail) only [go_sem, PairA.av]
    simp only [PairA.av] at hlg
    repeat (first | apply Wp.seqA | apply Wp.skipS | apply Wp.blockS | ((first | apply Wp.regS | apply Wp.condV | apply Wp.reg | apply Wp.condW); · (simp -implicitDefEqProofs (maxSteps := 2000000) (disch := first | exact tt_rfl rfl | omega | (simp only [go_sem, List.length_range, List.length_replicate, List.length_set, List.length_take, List.length_drop] <;> omega) | fail) only [go_sem, hlg, hkn]; with_reducible rfl)) | apply Wp.block | apply Wp.exitS | apply Wp.retS | apply Wp.exit | apply Wp.ret | apply Wp.skip | (apply fin_ret; simp -implicitDefEqProofs (maxSteps := 2000000) (disch := first | exact tt_rfl rfl | omega | (simp only [go_sem, List.length_range, List.length_replicate, List.length_set, List.length_take, List.length_drop] <;> omega) | fail) only [go_sem, hlg, hkn]))
  · rw [decide_eq_false h] at hlg
    have hcp := copied_ok x h
    have his := is_ok x h
    have hch := Check_ok x.a
    have hpl := Places_ok x.a
    have hah := Ahead_ok x.a x.b x.marks (by omega)
    have hrc := refCheck_ok x.a
    have hop := refOpen_ok x.a x.b x.marks (by omega)
    simp only [PairA.av] at hlg hcp his ⊢
    by_cases c : checkL x.a = 0
    · have hrp := refPlaces_ok x.a c
      have hlen : (sumsL (widthsL x.a)).length ≤ 201 := by have := (widths_small c).1; simp [sumsL]; omega
      have hal := Alike_ok (sumsL (widthsL x.a)) (by omega)
      have e1 : placesL x.a = sumsL (widthsL x.a) := by simp [placesL, c]
      rw [e1] at hpl
      rw [c] at hch hpl hrc
      by_cases o : openE x.a x.b x.marks = 0
      · have hE := o
        unfold openE at hE
        by_cases p0 : (pairL x.a x.b).e = 0
        · obtain ⟨h1, h2, h3, h4⟩ := pairL_ok p0
          simp only [p0, ne_eq, not_true_eq_false, if_false] at hE
          by_cases p1 : (x.marks.all fun t => decide (1 ≤ t ∧ t ≤ ((pairL x.a x.b).more.length : Int))) = false
          · rw [if_pos p1] at hE; omega
          · rw [if_neg p1] at hE
            by_cases p2 : incL x.marks = false
            · rw [if_pos p2] at hE; omega
            · rw [if_neg p2] at hE
              obtain ⟨m1, m2⟩ := ahead_ref (ts := x.marks) p0 (by simpa using p1) (by simpa using p2)
              cases hgo : aheadGo (pairL x.a x.b).more 0 x.marks with
              | none => rw [hgo] at hE; simp at hE
              | some l =>
                obtain ⟨k1, k2⟩ := m1 l hgo
                have e2 : openL x.a x.b x.marks = l := by simp [openL, o, hgo]
                have hra := refAhead_ok x.a x.b x.marks (by omega) h1 h2 h3 (.tuple [.own 2 (l.map Span.av), .bool true]) (fun _ => by rw [k2]) fun k q1 q2 => absurd q2 (k1 k q1)
                have hl2 : l.length ≤ 201 := by rw [k2]; have := (widths_small c).1; simp; omega
                have hal2 := Alike_ok l (by omega)
                rw [e2, o] at hah
                rw [o] at hop
                clear m1 m2 hgo hE k1 k2
                refine lim_by (fn := a3) (k := 1) (res := [.tmp 2]) rfl rfl rfl (by simp -implicitDefEqProofs (maxSteps := 2000000) (disch := first | exact tt_rfl rfl | omega | (simp only [go_sem, List.length_range, List.length_replicate, List.length_set, List.length_take, List.length_drop] <;> omega) | fail) only [go_sem]) ?_
                simp -implicitDefEqProofs (maxSteps := 2000000) (disch := first | exact tt_rfl rfl | omega | (simp only [go_sem, List.length_range, List.length_replicate, List.length_set, List.length_take, List.length_drop] <;> omega) | fail) only [go_sem]
                repeat (first | apply Wp.seqA | apply Wp.skipS | apply Wp.blockS | ((first | apply Wp.regS | apply Wp.condV | apply Wp.reg | apply Wp.condW); · (simp -implicitDefEqProofs (maxSteps := 2000000) (disch := first | exact tt_rfl rfl | omega | (simp only [go_sem, List.length_range, List.length_replicate, List.length_set, List.length_take, List.length_drop] <;> omega) | fail) only [go_sem, hlg, hkn, hcp, his, hch, hpl, hah, hrc, hop, hrp, hal, hra, hal2]; with_reducible rfl)) | apply Wp.block | apply Wp.exitS | apply Wp.retS | apply Wp.exit | apply Wp.ret | apply Wp.skip | (apply fin_ret; simp -implicitDefEqProofs (maxSteps := 2000000) (disch := first | exact tt_rfl rfl | omega | (simp only [go_sem, List.length_range, List.length_replicate, List.length_set, List.length_take, List.length_drop] <;> omega) | fail) only [go_sem, hlg, hkn, hcp, his, hch, hpl, hah, hrc, hop, hrp, hal, hra, hal2]))
        · simp only [p0, ne_eq, not_false_eq_true, if_true] at hE
      · have e2 : openL x.a x.b x.marks = [] := by simp [openL, o]
        rw [e2] at hah
        refine lim_by (fn := a3) (k := 1) (res := [.tmp 2]) rfl rfl rfl (by simp -implicitDefEqProofs (maxSteps := 2000000) (disch := first | exact tt_rfl rfl | omega | (simp only [go_sem, List.length_range, List.length_replicate, List.length_set, List.length_take, List.length_drop] <;> omega) | fail) only [go_sem]) ?_
        simp -implicitDefEqProofs (maxSteps := 2000000) (disch := first | exact tt_rfl rfl | omega | (simp only [go_sem, List.length_range, List.length_replicate, List.length_set, List.length_take, List.length_drop] <;> omega) | fail) only [go_sem]
        repeat (first | apply Wp.seqA | apply Wp.skipS | apply Wp.blockS | ((first | apply Wp.regS | apply Wp.condV | apply Wp.reg | apply Wp.condW); · (simp -implicitDefEqProofs (maxSteps := 2000000) (disch := first | exact tt_rfl rfl | omega | (simp only [go_sem, List.length_range, List.length_replicate, List.length_set, List.length_take, List.length_drop] <;> omega) | fail) only [go_sem, hlg, hkn, hcp, his, hch, hpl, hah, hrc, hop, hrp, hal, o]; with_reducible rfl)) | apply Wp.block | apply Wp.exitS | apply Wp.retS | apply Wp.exit | apply Wp.ret | apply Wp.skip | (apply fin_ret; simp -implicitDefEqProofs (maxSteps := 2000000) (disch := first | exact tt_rfl rfl | omega | (simp only [go_sem, List.length_range, List.length_replicate, List.length_set, List.length_take, List.length_drop] <;> omega) | fail) only [go_sem, hlg, hkn, hcp, his, hch, hpl, hah, hrc, hop, hrp, hal, o]))
    · have e1 : placesL x.a = [] := by simp [placesL, c]
      rw [e1] at hpl
      have p0 : openE x.a x.b x.marks = checkL x.a := by simp [openE, pairL, c]
      have o : ¬ openE x.a x.b x.marks = 0 := by rw [p0]; exact c
      have e2 : openL x.a x.b x.marks = [] := by simp [openL, o]
      rw [e2] at hah
      refine lim_by (fn := a3) (k := 1) (res := [.tmp 2]) rfl rfl rfl (by simp -implicitDefEqProofs (maxSteps := 2000000) (disch := first | exact tt_rfl rfl | omega | (simp only [go_sem, List.length_range, List.length_replicate, List.length_set, List.length_take, List.length_drop] <;> omega) | fail) only [go_sem]) ?_
      simp -implicitDefEqProofs (maxSteps := 2000000) (disch := first | exact tt_rfl rfl | omega | (simp only [go_sem, List.length_range, List.length_replicate, List.length_set, List.length_take, List.length_drop] <;> omega) | fail) only [go_sem]
      repeat (first | apply Wp.seqA | apply Wp.skipS | apply Wp.blockS | ((first | apply Wp.regS | apply Wp.condV | apply Wp.reg | apply Wp.condW); · (simp -implicitDefEqProofs (maxSteps := 2000000) (disch := first | exact tt_rfl rfl | omega | (simp only [go_sem, List.length_range, List.length_replicate, List.length_set, List.length_take, List.length_drop] <;> omega) | fail) only [go_sem, hlg, hkn, hcp, his, hch, hpl, hah, hrc, hop, c, o]; with_reducible rfl)) | apply Wp.block | apply Wp.exitS | apply Wp.retS | apply Wp.exit | apply Wp.ret | apply Wp.skip | (apply fin_ret; simp -implicitDefEqProofs (maxSteps := 2000000) (disch := first | exact tt_rfl rfl | omega | (simp only [go_sem, List.length_range, List.length_replicate, List.length_set, List.length_take, List.length_drop] <;> omega) | fail) only [go_sem, hlg, hkn, hcp, his, hch, hpl, hah, hrc, hop, c, o]))
end Go.Abs
