/-
  Chapter 7: the statement SeamCuts returns true.
-/
import Derived.Test.YtfokmdhmaabegaaS27
import Derived.Test.YtfokmdhmaabegaaKnown
set_option linter.all false
namespace Go.Abs
set_option maxRecDepth 10000
set_option maxHeartbeats 1000000

open Classical in
theorem seamCuts_ok (r : Int) (bad : List Int) (l : List Cut) : lim F 7 [iv r, .list 1 (bad.map fun n => iv n), .list 2 (l.map Cut.av)] = some (.bool true, []) := by
  have hkn := known_ok
  have hE := refCuts_ok r bad l
  by_cases b1 : 50 < bad.length
  · refine lim_by (fn := a7) (k := 3) (res := [.tmp 6]) rfl rfl rfl (by simp -implicitDefEqProofs (maxSteps := 2000000) (disch := first | exact tt_rfl rfl | omega | (simp only [go_sem] <;> omega) | fail) only [go_sem]) ?_
    simp -implicitDefEqProofs (maxSteps := 2000000) (disch := first | exact tt_rfl rfl | omega | (simp only [go_sem] <;> omega) | fail) only [go_sem]
    repeat (first | apply Wp.seqA | apply Wp.skipS | apply Wp.blockS | ((first | apply Wp.regS | apply Wp.condV | apply Wp.reg | apply Wp.condW | apply fin_ret); simp -implicitDefEqProofs (maxSteps := 2000000) (disch := first | exact tt_rfl rfl | omega | (simp only [go_sem] <;> omega) | fail) only [go_sem, hE, hkn, show (50 : Int) < bad.length by omega] <;> try with_reducible rfl) | apply Wp.block | apply Wp.exitS | apply Wp.retS | apply Wp.exit | apply Wp.ret | apply Wp.skip)
  · have c1 : ¬ (50 : Int) < bad.length := by omega
    by_cases b2 : 12 < l.length
    · refine lim_by (fn := a7) (k := 3) (res := [.tmp 6]) rfl rfl rfl (by simp -implicitDefEqProofs (maxSteps := 2000000) (disch := first | exact tt_rfl rfl | omega | (simp only [go_sem] <;> omega) | fail) only [go_sem]) ?_
      simp -implicitDefEqProofs (maxSteps := 2000000) (disch := first | exact tt_rfl rfl | omega | (simp only [go_sem] <;> omega) | fail) only [go_sem]
      repeat (first | apply Wp.seqA | apply Wp.skipS | apply Wp.blockS | ((first | apply Wp.regS | apply Wp.condV | apply Wp.reg | apply Wp.condW | apply fin_ret); simp -implicitDefEqProofs (maxSteps := 2000000) (disch := first | exact tt_rfl rfl | omega | (simp only [go_sem] <;> omega) | fail) only [go_sem, hE, hkn, c1, show (12 : Int) < l.length by omega] <;> try with_reducible rfl) | apply Wp.block | apply Wp.exitS | apply Wp.retS | apply Wp.exit | apply Wp.ret | apply Wp.skip)
    · have c2 : ¬ (12 : Int) < l.length := by omega
      have hin := ints_ok bad (by omega)
      have hcu := cuts_ok l (by omega)
      have hsa := Same_ok bad (by omega)
      have hli := like_ok l (by omega)
      by_cases z : cutsE r bad l = 0
      · by_cases b3 : 5 < l.length
        · rw [z] at hE
          refine lim_by (fn := a7) (k := 3) (res := [.tmp 6]) rfl rfl rfl (by simp -implicitDefEqProofs (maxSteps := 2000000) (disch := first | exact tt_rfl rfl | omega | (simp only [go_sem] <;> omega) | fail) only [go_sem]) ?_
          simp -implicitDefEqProofs (maxSteps := 2000000) (disch := first | exact tt_rfl rfl | omega | (simp only [go_sem] <;> omega) | fail) only [go_sem]
          repeat (first | apply Wp.seqA | apply Wp.skipS | apply Wp.blockS | ((first | apply Wp.regS | apply Wp.condV | apply Wp.reg | apply Wp.condW | apply fin_ret); simp -implicitDefEqProofs (maxSteps := 2000000) (disch := first | exact tt_rfl rfl | omega | (simp only [go_sem] <;> omega) | fail) only [go_sem, hE, hkn, c1, c2, show (5 : Int) < l.length by omega] <;> try with_reducible rfl) | apply Wp.block | apply Wp.exitS | apply Wp.retS | apply Wp.exit | apply Wp.ret | apply Wp.skip)
        · have c3 : ¬ (5 : Int) < l.length := by omega
          have hv := cutsE_zero z
          obtain ⟨q, hC, st, need, rfl, hB, hfit⟩ := Cut_ok r bad l z
          have hb := best_bound hv (Int.le_refl 0) hB
          have hfr : ∀ i, i < l.length → isFree (List.replicate l.length false) i = true := fun i hi => by simp [isFree, List.getElem?_replicate, hi]
          have hN := Need_ok r bad l hv _ (List.replicate l.length false) 0 need (by simp) rfl (by omega) (by
            have := List.length_filter_le (isFree (List.replicate l.length false)) (List.range l.length)
            rw [List.length_range] at this
            omega) (best_congr (fun i hi => (hfr i hi).symm) hB)
          rw [List.map_replicate] at hN
          have hF := fun s p h1 h2 => Fine_ok bad s p (by omega) h1 h2
          have hlen := hfit.len
          have hr0 : ¬ r = 0 := by have := hv.rr; omega
          have hcc := hv.cc
          rw [z] at hE
          by_cases hn0 : l.length = 0
          · obtain rfl : l = [] := List.length_eq_zero_iff.1 hn0
            obtain rfl : st = [] := List.length_eq_zero_iff.1 (by simpa using hlen)
            have hnd := hfit.none rfl
            clear hF hfit hcc hfr hv hB
            simp only [List.map_nil, List.length_nil, List.replicate_zero] at hE hcu hli hC hN
            refine lim_by (fn := a7) (k := 3) (res := [.tmp 6]) rfl rfl rfl (by simp -implicitDefEqProofs (maxSteps := 2000000) (disch := first | exact tt_rfl rfl | omega | (simp only [go_sem] <;> omega) | fail) only [go_sem]) ?_
            simp -implicitDefEqProofs (maxSteps := 2000000) (disch := first | exact tt_rfl rfl | omega | (simp only [go_sem] <;> omega) | fail) only [go_sem]
            repeat (first | apply Wp.seqA | apply Wp.skipS | apply Wp.blockS | ((first | apply Wp.regS | apply Wp.condV | apply Wp.reg | apply Wp.condW | apply fin_ret); simp -implicitDefEqProofs (maxSteps := 2000000) (disch := first | exact tt_rfl rfl | omega | (simp only [go_sem] <;> omega) | fail) only [go_sem, hE, hkn, c1, hin, hcu, hsa, hli, hC, hN, List.map_nil] <;> try with_reducible rfl) | apply Wp.block | apply Wp.exitS | apply Wp.retS | apply Wp.exit | apply Wp.ret | apply Wp.skip)
            apply Wp.loopF 0 (fun i => ⟨[(0, iv r), (1, .list 1 (bad.map fun n => iv n)), (2, .list 2 []), (10, .slice 640 0 0), (11, iv need), (13, iv 0), (14, iv i)], [(640, .arr 1 [])], [], 1000000⟩) (fun _ => True)
            · simp -implicitDefEqProofs (maxSteps := 2000000) (disch := first | exact tt_rfl rfl | omega | (simp only [go_sem] <;> omega) | fail) only [go_sem, norm_eq, Ok.some]
            · trivial
            intro i hi _
            obtain rfl : i = 0 := by omega
            repeat (first | apply Wp.seqA | apply Wp.skipS | apply Wp.blockS | ((first | apply Wp.regS | apply Wp.condV | apply Wp.reg | apply Wp.condW | apply fin_ret); simp -implicitDefEqProofs (maxSteps := 2000000) (disch := first | exact tt_rfl rfl | omega | (simp only [go_sem] <;> omega) | fail) only [go_sem, Int.lt_irrefl, hkn, hnd] <;> try with_reducible rfl) | apply Wp.block | apply Wp.exitS | apply Wp.retS | apply Wp.exit | apply Wp.ret | apply Wp.skip)
          have hn1 : ¬ l.length = 0 := hn0
          have hrp : (List.replicate l.length (AV.bool false)).all AV.plain = true := by simp [AV.plain, AV.plain1]
          refine lim_by (fn := a7) (k := 3) (res := [.tmp 6]) rfl rfl rfl (by simp -implicitDefEqProofs (maxSteps := 2000000) (disch := first | exact tt_rfl rfl | omega | (simp only [go_sem] <;> omega) | fail) only [go_sem]) ?_
          simp -implicitDefEqProofs (maxSteps := 2000000) (disch := first | exact tt_rfl rfl | omega | (simp only [go_sem] <;> omega) | fail) only [go_sem]
          repeat (first | apply Wp.seqA | apply Wp.skipS | apply Wp.blockS | ((first | apply Wp.regS | apply Wp.condV | apply Wp.reg | apply Wp.condW | apply fin_ret); simp -implicitDefEqProofs (maxSteps := 2000000) (disch := first | exact tt_rfl rfl | omega | (simp only [go_sem] <;> omega) | fail) only [go_sem, hE, hkn, c1, c2, c3, hin, hcu, hsa, hli, hC, hN, hlen, hn1, hrp] <;> try with_reducible rfl) | apply Wp.block | apply Wp.exitS | apply Wp.retS | apply Wp.exit | apply Wp.ret | apply Wp.skip)
          apply Wp.loopN l.length (fun i fr => ∃ e : Int, fr = ⟨[(0, iv r), (1, .list 1 (bad.map fun n => iv n)), (2, .list 2 (l.map Cut.av)), (10, .slice 640 0 l.length), (11, iv need), (13, iv e), (14, iv i)], [(640, .arr 1 (st.map fun n => iv n))], [], 1000000⟩ ∧
            (∀ j, j < i → stAt st j + (cutAt l j).p ≤ e) ∧ ((e = 0 ∧ i = 0) ∨ ∃ j, j < i ∧ e = stAt st j + (cutAt l j).p))
          · simp -implicitDefEqProofs (maxSteps := 2000000) (disch := first | exact tt_rfl rfl | omega | (simp only [go_sem] <;> omega) | fail) only [go_sem, norm_eq, Ok.some]
            exact ⟨0, by simp [hlen], fun j hj => by omega, .inl rfl⟩
          clear hE hin hcu hsa hli hC hN
          rintro i fr hi ⟨e, rfl, he1, he2⟩
          by_cases h : i < l.length
          · have hx := stAt_eq (l := st) (i := i) (by omega)
            have hc := cutAt_eq h
            have hcv := hcc _ (cutAt_mem h)
            obtain ⟨k1, k2, k3, k4⟩ := hfit.each i h
            have hF := hF (stAt st i) (cutAt l i).p (by omega) (by omega)
            rw [decide_eq_true k3] at hF
            have htm := tmod_of (a := stAt st i) (b := r) k1
            have heb : 0 ≤ e ∧ e ≤ need := by
              rcases he2 with ⟨h1, _⟩ | ⟨j, h1, h2⟩
              · omega
              · have := hfit.each j (by omega)
                have q1 := this.pos
                have q2 := this.fin
                have := hcc _ (cutAt_mem (show j < l.length by omega))
                omega
            have hap := fun k (hk : k < l.length) (hki : k ≠ i) => hfit.apart i k h hk (fun e => hki e.symm)
            have hpos := fun k (hk : k < l.length) => (hfit.each k hk).pos
            have hfn := fun k (hk : k < l.length) => (hfit.each k hk).fin
            repeat (first | apply Wp.seqA | apply Wp.skipS | apply Wp.blockS | ((first | apply Wp.regS | apply Wp.condV | apply Wp.reg | apply Wp.condW | apply fin_ret); simp -implicitDefEqProofs (maxSteps := 2000000) (disch := first | exact tt_rfl rfl | omega | (simp only [go_sem] <;> omega) | fail) only [go_sem, h, Int.ofNat_lt, List.getElem?_map, hx, hc, Option.map_some, Cut.av.eq_1, htm, k2, hF, hr0, show ¬ stAt st i < 0 by omega, show ¬ need < stAt st i by omega] <;> try with_reducible rfl) | apply Wp.block | apply Wp.exitS | apply Wp.retS | apply Wp.exit | apply Wp.ret | apply Wp.skip)
            apply Wp.loopF i (fun k => ⟨[(0, iv r), (1, .list 1 (bad.map fun n => iv n)), (2, .list 2 (l.map Cut.av)), (10, .slice 640 0 l.length), (11, iv need), (13, iv e), (14, iv i), (15, iv (stAt st i)), (16, iv k)], [(640, .arr 1 (st.map fun n => iv n))], [], 1000000⟩) (fun _ => True)
            · simp -implicitDefEqProofs (maxSteps := 2000000) (disch := first | exact tt_rfl rfl | omega | (simp only [go_sem] <;> omega) | fail) only [go_sem, norm_eq, Ok.some]
            · trivial
            intro k hk _
            by_cases hki : k < i
            · have hxk := stAt_eq (l := st) (i := k) (by omega)
              have hck := cutAt_eq (show k < l.length by omega)
              have hpk := hpos k (by omega)
              have hfk := hfn k (by omega)
              have hcvk := hcc _ (cutAt_mem (show k < l.length by omega))
              clear hF hfit he1 he2
              rcases hap k (by omega) (by omega) with q | q
              · have q2 : ¬ stAt st k < stAt st i + (cutAt l i).p := by omega
                by_cases q1 : stAt st i < stAt st k + (cutAt l k).p
                all_goals
                  clear hap hpos hfn hcc
                  repeat (first | apply Wp.seqA | apply Wp.skipS | apply Wp.blockS | ((first | apply Wp.regS | apply Wp.condV | apply Wp.reg | apply Wp.condW | apply fin_ret); simp -implicitDefEqProofs (maxSteps := 2000000) (disch := first | exact tt_rfl rfl | omega | (simp only [go_sem] <;> omega) | fail) only [go_sem, h, hki, Int.ofNat_lt, List.getElem?_map, hx, hc, hxk, hck, Option.map_some, Cut.av.eq_1, q1, q2, show k < l.length by omega] <;> try with_reducible rfl) | apply Wp.block | apply Wp.exitS | apply Wp.retS | apply Wp.exit | apply Wp.ret | apply Wp.skip)
                  apply round_next
                  · simp -implicitDefEqProofs (maxSteps := 2000000) (disch := first | exact tt_rfl rfl | omega | (simp only [go_sem] <;> omega) | fail) only [go_sem, norm_eq, Ok.some]; with_reducible rfl
                  exact ⟨hki, by simp, trivial⟩
              · have q1 : ¬ stAt st i < stAt st k + (cutAt l k).p := by omega
                clear hap hpos hfn hcc
                repeat (first | apply Wp.seqA | apply Wp.skipS | apply Wp.blockS | ((first | apply Wp.regS | apply Wp.condV | apply Wp.reg | apply Wp.condW | apply fin_ret); simp -implicitDefEqProofs (maxSteps := 2000000) (disch := first | exact tt_rfl rfl | omega | (simp only [go_sem] <;> omega) | fail) only [go_sem, h, hki, Int.ofNat_lt, List.getElem?_map, hx, hc, hxk, hck, Option.map_some, Cut.av.eq_1, q1, show k < l.length by omega] <;> try with_reducible rfl) | apply Wp.block | apply Wp.exitS | apply Wp.retS | apply Wp.exit | apply Wp.ret | apply Wp.skip)
                apply round_next
                · simp -implicitDefEqProofs (maxSteps := 2000000) (disch := first | exact tt_rfl rfl | omega | (simp only [go_sem] <;> omega) | fail) only [go_sem, norm_eq, Ok.some]; with_reducible rfl
                exact ⟨hki, by simp, trivial⟩
            · obtain rfl : k = i := by omega
              clear hap hpos hfn hF
              repeat (first | apply Wp.seqA | apply Wp.skipS | apply Wp.blockS | ((first | apply Wp.regS | apply Wp.condV | apply Wp.reg | apply Wp.condW | apply fin_ret); simp -implicitDefEqProofs (maxSteps := 2000000) (disch := first | exact tt_rfl rfl | omega | (simp only [go_sem] <;> omega) | fail) only [go_sem, h, Int.lt_irrefl, Int.ofNat_lt, List.getElem?_map, hc, Option.map_some, Cut.av.eq_1] <;> try with_reducible rfl) | apply Wp.block | apply Wp.exitS | apply Wp.retS | apply Wp.exit | apply Wp.ret | apply Wp.skip)
              apply round_next
              · simp -implicitDefEqProofs (maxSteps := 2000000) (disch := first | exact tt_rfl rfl | omega | (simp only [go_sem] <;> omega) | fail) only [go_sem, norm_eq, Ok.some]; with_reducible rfl
              refine ⟨h, max e (stAt st k + (cutAt l k).p), by simp, fun j hj => ?_, ?_⟩
              · by_cases c : j = k
                · subst c; omega
                · have := he1 j (by omega); omega
              · by_cases c : e ≤ stAt st k + (cutAt l k).p
                · exact .inr ⟨k, by omega, by omega⟩
                · rcases he2 with ⟨h1, h2⟩ | ⟨j, h1, h2⟩
                  · omega
                  · exact .inr ⟨j, by omega, by omega⟩
          · obtain rfl : i = l.length := by omega
            have hen : e = need := by
              rcases he2 with ⟨h1, h2⟩ | ⟨j, h1, h2⟩
              · rw [h1, hfit.none h2]
              · obtain ⟨i, q1, q2⟩ := hfit.top (by omega)
                have := he1 i q1
                have := (hfit.each j h1).fin
                omega
            rw [hen]
            clear hF hfit hcc he1 he2
            repeat (first | apply Wp.seqA | apply Wp.skipS | apply Wp.blockS | ((first | apply Wp.regS | apply Wp.condV | apply Wp.reg | apply Wp.condW | apply fin_ret); simp -implicitDefEqProofs (maxSteps := 2000000) (disch := first | exact tt_rfl rfl | omega | (simp only [go_sem] <;> omega) | fail) only [go_sem, Int.lt_irrefl, hkn] <;> try with_reducible rfl) | apply Wp.block | apply Wp.exitS | apply Wp.retS | apply Wp.exit | apply Wp.ret | apply Wp.skip)
      · have hC := Cut_err r bad l z
        refine lim_by (fn := a7) (k := 3) (res := [.tmp 6]) rfl rfl rfl (by simp -implicitDefEqProofs (maxSteps := 2000000) (disch := first | exact tt_rfl rfl | omega | (simp only [go_sem] <;> omega) | fail) only [go_sem]) ?_
        simp -implicitDefEqProofs (maxSteps := 2000000) (disch := first | exact tt_rfl rfl | omega | (simp only [go_sem] <;> omega) | fail) only [go_sem]
        repeat (first | apply Wp.seqA | apply Wp.skipS | apply Wp.blockS | ((first | apply Wp.regS | apply Wp.condV | apply Wp.reg | apply Wp.condW | apply fin_ret); simp -implicitDefEqProofs (maxSteps := 2000000) (disch := first | exact tt_rfl rfl | omega | (simp only [go_sem] <;> omega) | fail) only [go_sem, hE, hkn, c1, c2, hin, hcu, hsa, hli, hC, z] <;> try with_reducible rfl) | apply Wp.block | apply Wp.exitS | apply Wp.retS | apply Wp.exit | apply Wp.ret | apply Wp.skip)
end Go.Abs
