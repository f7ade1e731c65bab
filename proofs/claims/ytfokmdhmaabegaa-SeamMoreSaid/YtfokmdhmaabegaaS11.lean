/-
  Chapter 7: the contract of the program's Run; the statement SeamRuns returns true.
-/
import Derived.Test.YtfokmdhmaabegaaS10
set_option linter.all false
namespace Go.Abs
set_option maxRecDepth 10000
set_option maxHeartbeats 4000000

theorem marks_nat {ts : List Int} {n k : Nat} (hall : (ts.all fun t => decide (1 ≤ t ∧ t ≤ (n : Int))) = true) (h : k < ts.length) : ∃ m : Nat, ts[k] = (m : Int) ∧ 1 ≤ m ∧ m ≤ n := by
  have := List.all_eq_true.1 hall ts[k] (List.getElem_mem h)
  simp only [decide_eq_true_eq] at this
  exact ⟨ts[k].toNat, by omega, by omega, by omega⟩

theorem Run_ok (a b : List Part) (ts : List Int) (t : TruthA) (hts : ts.length ≤ 1000) (res : AV) (h1 : openE a b ts ≠ 0 → res = .tuple [.own 1 [], iv (openE a b ts)])
    (h2 : openE a b ts = 0 → RunRes (widthsL a) (widthsL b) ts t (widthsL a).length res) :
    lim F 57 [.list 3 (a.map Part.av), .list 3 (b.map Part.av), .list 1 (ts.map fun n => iv n), t.av] = some (res, []) := by
  have h := open_ok a b ts hts
  simp only [PairL.av] at h
  obtain ⟨tA, tB⟩ := t
  simp only [TruthA.av] at *
  by_cases h0 : openE a b ts = 0
  · obtain ⟨p0, hall, _, _, _, _⟩ := openE_zero h0
    obtain ⟨c1, c2, c3, c4⟩ := pairL_ok p0
    have h2 := h2 h0
    have hn := (widths_small c1).1
    have hlen : (widthsL b).length = (widthsL a).length := by
      have := widths_length (checkL_zero c1).2.1
      have := widths_length (checkL_zero c2).2.1
      omega
    have wda := wide_of (checkL_zero c1).2.1
    have wdb := wide_of (checkL_zero c2).2.1
    have hml : (pairL a b).more.length = (widthsL a).length := by rw [c4]; simp [moreL]; omega
    rw [hml] at hall
    rw [h0] at h
    simp only [c4] at h
    have hml2 : (moreL (widthsL a) (widthsL b)).length = (widthsL a).length := by simp [moreL]; omega
    generalize moreL (widthsL a) (widthsL b) = mo at *
    generalize openL a b ts = ol at *
    generalize widthsL a = wa at *
    generalize widthsL b = wb at *
    generalize hnn : wa.length = n at *
    clear h1 c1 c2 c3 c4 p0 h0 hml
    obtain ⟨h4, h3, h9, h0⟩ := h2
    by_cases c1 : tA.length = n
    · by_cases c2 : tB.length = n
      · have h3 := h3 c1 c2
        have h9 := h9 c1 c2
        have h0 := h0 c1 c2
        clear h4
        refine lim_by (fn := a57) (k := 4) (res := [.tmp 8, .tmp 9]) rfl rfl rfl (by simp -implicitDefEqProofs (maxSteps := 2000000) (disch := first | exact tt_rfl rfl | omega | (simp only [go_sem] <;> omega) | fail) only [go_sem]) ?_
        simp -implicitDefEqProofs (maxSteps := 2000000) (disch := first | exact tt_rfl rfl | omega | (simp only [go_sem] <;> omega) | fail) only [go_sem]
        repeat (first | apply Wp.seqA | apply Wp.skipS | apply Wp.blockS | ((first | apply Wp.regS | apply Wp.condV | apply Wp.reg | apply Wp.condW | apply fin_ret); simp -implicitDefEqProofs (maxSteps := 2000000) (disch := first | exact tt_rfl rfl | omega | (simp only [go_sem] <;> omega) | fail) only [go_sem, h, c1, c2, hnn, hlen] <;> try with_reducible rfl) | apply Wp.block | apply Wp.exitS | apply Wp.retS | apply Wp.exit | apply Wp.ret | apply Wp.skip)
        apply Wp.loopF n (fun i => ⟨[(2, .list 1 (ts.map fun n => iv n)), (7, .ptr 448 0 0), (8, .slice 512 0 (i + 1)), (10, .ptr 640 0 0), (45, .list 1 (tA.map fun n => iv n)), (46, iv n), (47, iv i)],
          [(448, .box [.list 1 (tA.map fun n => iv n), .list 1 (tB.map fun n => iv n)]), (512, .arr 1 (((List.range (i + 1)).map (ahT tA tB)).map fun n => iv n)), (640, .box [.slice 60240 0 n, .slice 60241 0 n, .slice 60242 0 n]),
           (60240, .arr 2 (wa.map Span.av)), (60241, .arr 2 (wb.map Span.av)), (60242, .arr 2 (mo.map Span.av))], [], 1000000⟩) (fun i => ∀ j, j < i → FitT wa wb tA tB j)
        · simp -implicitDefEqProofs (maxSteps := 2000000) (disch := first | exact tt_rfl rfl | omega | (simp only [go_sem] <;> omega) | fail) only [go_sem, norm_eq, Ok.some]
          simp [ahT, c1, hml2, hlen, hnn]
        · intro j hj; omega
        intro i hi hfit
        have hbd := ahT_bound wda wdb hfit
        by_cases hin : i < n
        · have xa : tA[i]? = some (atI tA i) := atI_eq (by omega)
          have xb : tB[i]? = some (atI tB i) := atI_eq (by omega)
          have xc : ((List.range (i + 1)).map (ahT tA tB))[i]? = some (ahT tA tB i) := by simp
          have ya : wa[i]? = some (at' wa i) := at'_eq (by omega)
          have yb : wb[i]? = some (at' wb i) := at'_eq (by omega)
          have i1 := has_ok (at' wa i).lo (at' wa i).hi (atI tA i)
          have i2 := has_ok (at' wb i).lo (at' wb i).hi (atI tB i)
          have q1 := wda i
          have q2 := wdb i
          have hilt : (i : Int) < n := by omega
          clear h9 h0 hall h
          by_cases f1 : InW (at' wa i) (atI tA i)
          · rw [decide_eq_true f1] at i1
            by_cases f2 : InW (at' wb i) (atI tB i)
            · rw [decide_eq_true f2] at i2
              obtain ⟨f11, f12⟩ := f1
              obtain ⟨f21, f22⟩ := f2
              repeat (first | apply Wp.seqA | apply Wp.skipS | apply Wp.blockS | ((first | apply Wp.regS | apply Wp.condV | apply Wp.reg | apply Wp.condW | apply fin_ret); simp -implicitDefEqProofs (maxSteps := 2000000) (disch := first | exact tt_rfl rfl | omega | (simp only [go_sem] <;> omega) | fail) only [go_sem, hilt, List.getElem?_map, xa, xb, xc, ya, yb, Option.map_some, i1, i2, Span.av.eq_1] <;> try with_reducible rfl) | apply Wp.block | apply Wp.exitS | apply Wp.retS | apply Wp.exit | apply Wp.ret | apply Wp.skip)
              apply round_next
              · simp -implicitDefEqProofs (maxSteps := 2000000) (disch := first | exact tt_rfl rfl | omega | (simp only [go_sem] <;> omega) | fail) only [go_sem, norm_eq, Ok.some]; with_reducible rfl
              refine ⟨hin, ?_, fun j hj => ?_⟩
              · rw [List.range_succ (n := i + 1)]
                simp [ahT]
              · by_cases e : j = i
                · subst e; exact ⟨⟨f11, f12⟩, ⟨f21, f22⟩⟩
                · exact hfit j (by omega)
            · rw [decide_eq_false f2] at i2
              rw [h3 i hin fun hh => f2 hh.2]
              repeat (first | apply Wp.seqA | apply Wp.skipS | apply Wp.blockS | ((first | apply Wp.regS | apply Wp.condV | apply Wp.reg | apply Wp.condW | apply fin_ret); simp -implicitDefEqProofs (maxSteps := 2000000) (disch := first | exact tt_rfl rfl | omega | (simp only [go_sem] <;> omega) | fail) only [go_sem, hilt, List.getElem?_map, xa, xb, xc, ya, yb, Option.map_some, i1, i2, Span.av.eq_1] <;> try with_reducible rfl) | apply Wp.block | apply Wp.exitS | apply Wp.retS | apply Wp.exit | apply Wp.ret | apply Wp.skip)
          · rw [decide_eq_false f1] at i1
            rw [h3 i hin fun hh => f1 hh.1]
            repeat (first | apply Wp.seqA | apply Wp.skipS | apply Wp.blockS | ((first | apply Wp.regS | apply Wp.condV | apply Wp.reg | apply Wp.condW | apply fin_ret); simp -implicitDefEqProofs (maxSteps := 2000000) (disch := first | exact tt_rfl rfl | omega | (simp only [go_sem] <;> omega) | fail) only [go_sem, hilt, List.getElem?_map, xa, xb, xc, ya, yb, Option.map_some, i1, i2, Span.av.eq_1] <;> try with_reducible rfl) | apply Wp.block | apply Wp.exitS | apply Wp.retS | apply Wp.exit | apply Wp.ret | apply Wp.skip)
        · obtain rfl : i = n := by omega
          have h9 := h9 hfit
          have h0 := h0 hfit
          clear h3 h
          repeat (first | apply Wp.seqA | apply Wp.skipS | apply Wp.blockS | ((first | apply Wp.regS | apply Wp.condV | apply Wp.reg | apply Wp.condW | apply fin_ret); simp -implicitDefEqProofs (maxSteps := 2000000) (disch := first | exact tt_rfl rfl | omega | (simp only [go_sem] <;> omega) | fail) only [go_sem, Int.lt_irrefl] <;> try with_reducible rfl) | apply Wp.block | apply Wp.exitS | apply Wp.retS | apply Wp.exit | apply Wp.ret | apply Wp.skip)
          apply Wp.loopF ts.length (fun k => ⟨[(8, .slice 512 0 (i + 1)), (90, .list 1 (ts.map fun n => iv n)), (91, iv ts.length), (92, iv k)], [(512, .arr 1 (((List.range (i + 1)).map (ahT tA tB)).map fun n => iv n))], [], 1000000⟩)
            (fun k => ∀ j (h : j < ts.length), j < k → ahT tA tB ts[j].toNat = 0)
          · simp -implicitDefEqProofs (maxSteps := 2000000) (disch := first | exact tt_rfl rfl | omega | (simp only [go_sem] <;> omega) | fail) only [go_sem, norm_eq, Ok.some]
          · intro j hj; omega
          intro k hk hz
          by_cases hkn : k < ts.length
          · obtain ⟨m, hm, m1, m2⟩ := marks_nat hall hkn
            have xc : ((List.range (i + 1)).map (ahT tA tB))[m]? = some (ahT tA tB m) := by simp [show m < i + 1 by omega]
            by_cases z : ahT tA tB m = 0
            · rw [z] at xc
              repeat (first | apply Wp.seqA | apply Wp.skipS | apply Wp.blockS | ((first | apply Wp.regS | apply Wp.condV | apply Wp.reg | apply Wp.condW | apply fin_ret); simp -implicitDefEqProofs (maxSteps := 2000000) (disch := first | exact tt_rfl rfl | omega | (simp only [go_sem] <;> omega) | fail) only [go_sem, hkn, Int.ofNat_lt, List.getElem?_map, List.getElem?_eq_getElem hkn, hm, xc, Option.map_some] <;> try with_reducible rfl) | apply Wp.block | apply Wp.exitS | apply Wp.retS | apply Wp.exit | apply Wp.ret | apply Wp.skip)
              apply round_next
              · simp -implicitDefEqProofs (maxSteps := 2000000) (disch := first | exact tt_rfl rfl | omega | (simp only [go_sem] <;> omega) | fail) only [go_sem, norm_eq, Ok.some]; with_reducible rfl
              refine ⟨hkn, by simp, fun j hj hjk => ?_⟩
              by_cases e : j = k
              · subst e; rw [hm]; exact z
              · exact hz j hj (by omega)
            · rw [h9 m m2 (hm ▸ List.getElem_mem hkn) z]
              repeat (first | apply Wp.seqA | apply Wp.skipS | apply Wp.blockS | ((first | apply Wp.regS | apply Wp.condV | apply Wp.reg | apply Wp.condW | apply fin_ret); simp -implicitDefEqProofs (maxSteps := 2000000) (disch := first | exact tt_rfl rfl | omega | (simp only [go_sem] <;> omega) | fail) only [go_sem, hkn, Int.ofNat_lt, List.getElem?_map, List.getElem?_eq_getElem hkn, hm, xc, Option.map_some, z] <;> try with_reducible rfl) | apply Wp.block | apply Wp.exitS | apply Wp.retS | apply Wp.exit | apply Wp.ret | apply Wp.skip)
          · obtain rfl : k = ts.length := by omega
            rw [h0 fun j hj hjm => by
              obtain ⟨q, hq, e⟩ := List.getElem_of_mem hjm
              have := hz q hq hq
              rw [e] at this
              simpa using this]
            repeat (first | apply Wp.seqA | apply Wp.skipS | apply Wp.blockS | ((first | apply Wp.regS | apply Wp.condV | apply Wp.reg | apply Wp.condW | apply fin_ret); simp -implicitDefEqProofs (maxSteps := 2000000) (disch := first | exact tt_rfl rfl | omega | (simp only [go_sem] <;> omega) | fail) only [go_sem, Int.lt_irrefl] <;> try with_reducible rfl) | apply Wp.block | apply Wp.exitS | apply Wp.retS | apply Wp.exit | apply Wp.ret | apply Wp.skip)
      · rw [h4 (by simp [c2])]
        have e2 : ¬ (tB.length : Int) = n := by omega
        refine lim_by (fn := a57) (k := 4) (res := [.tmp 8, .tmp 9]) rfl rfl rfl (by simp -implicitDefEqProofs (maxSteps := 2000000) (disch := first | exact tt_rfl rfl | omega | (simp only [go_sem] <;> omega) | fail) only [go_sem]) ?_
        simp -implicitDefEqProofs (maxSteps := 2000000) (disch := first | exact tt_rfl rfl | omega | (simp only [go_sem] <;> omega) | fail) only [go_sem]
        repeat (first | apply Wp.seqA | apply Wp.skipS | apply Wp.blockS | ((first | apply Wp.regS | apply Wp.condV | apply Wp.reg | apply Wp.condW | apply fin_ret); simp -implicitDefEqProofs (maxSteps := 2000000) (disch := first | exact tt_rfl rfl | omega | (simp only [go_sem] <;> omega) | fail) only [go_sem, h, c1, e2, hnn, hlen] <;> try with_reducible rfl) | apply Wp.block | apply Wp.exitS | apply Wp.retS | apply Wp.exit | apply Wp.ret | apply Wp.skip)
    · rw [h4 (by simp [c1])]
      have e1 : ¬ (tA.length : Int) = n := by omega
      refine lim_by (fn := a57) (k := 4) (res := [.tmp 8, .tmp 9]) rfl rfl rfl (by simp -implicitDefEqProofs (maxSteps := 2000000) (disch := first | exact tt_rfl rfl | omega | (simp only [go_sem] <;> omega) | fail) only [go_sem]) ?_
      simp -implicitDefEqProofs (maxSteps := 2000000) (disch := first | exact tt_rfl rfl | omega | (simp only [go_sem] <;> omega) | fail) only [go_sem]
      repeat (first | apply Wp.seqA | apply Wp.skipS | apply Wp.blockS | ((first | apply Wp.regS | apply Wp.condV | apply Wp.reg | apply Wp.condW | apply fin_ret); simp -implicitDefEqProofs (maxSteps := 2000000) (disch := first | exact tt_rfl rfl | omega | (simp only [go_sem] <;> omega) | fail) only [go_sem, h, e1, hnn, hlen] <;> try with_reducible rfl) | apply Wp.block | apply Wp.exitS | apply Wp.retS | apply Wp.exit | apply Wp.ret | apply Wp.skip)
  · rw [h1 h0]
    have e : openL a b ts = [] := by simp [openL, h0]
    rw [e] at h
    refine lim_by (fn := a57) (k := 4) (res := [.tmp 8, .tmp 9]) rfl rfl rfl (by simp -implicitDefEqProofs (maxSteps := 2000000) (disch := first | exact tt_rfl rfl | omega | (simp only [go_sem] <;> omega) | fail) only [go_sem]) ?_
    simp -implicitDefEqProofs (maxSteps := 2000000) (disch := first | exact tt_rfl rfl | omega | (simp only [go_sem] <;> omega) | fail) only [go_sem]
    repeat (first | apply Wp.seqA | apply Wp.skipS | apply Wp.blockS | ((first | apply Wp.regS | apply Wp.condV | apply Wp.reg | apply Wp.condW | apply fin_ret); simp -implicitDefEqProofs (maxSteps := 2000000) (disch := first | exact tt_rfl rfl | omega | (simp only [go_sem] <;> omega) | fail) only [go_sem, h, h0] <;> try with_reducible rfl) | apply Wp.block | apply Wp.exitS | apply Wp.retS | apply Wp.exit | apply Wp.ret | apply Wp.skip)

theorem run_res (wa wb : List Span) (ts : List Int) (t : TruthA) (n : Nat) : ∃ (l : List Int) (e : Int), RunRes wa wb ts t n (.tuple [.own 1 (l.map fun n => iv n), iv e]) ∧ ((e = 0 ∧ l.length = n + 1) ∨ (l = [] ∧ e ≠ 0)) := by
  by_cases c : t.a.length = n ∧ t.b.length = n
  · obtain ⟨c1, c2⟩ := c
    by_cases f : ∀ i, i < n → FitT wa wb t.a t.b i
    · by_cases z : ∀ i : Nat, i ≤ n → (i : Int) ∈ ts → ahT t.a t.b i = 0
      · exact ⟨(List.range (n + 1)).map (ahT t.a t.b), 0, ⟨fun h => absurd ⟨c1, c2⟩ h, fun _ _ i hi h => absurd (f i hi) h, fun _ _ _ i hi hm h => absurd (z i hi hm) h, fun _ _ _ _ => rfl⟩, .inl ⟨rfl, by simp⟩⟩
      · exact ⟨[], 9, ⟨fun h => absurd ⟨c1, c2⟩ h, fun _ _ i hi h => absurd (f i hi) h, fun _ _ _ _ _ _ _ => rfl, fun _ _ _ h => absurd h z⟩, .inr ⟨rfl, by omega⟩⟩
    · exact ⟨[], 3, ⟨fun h => absurd ⟨c1, c2⟩ h, fun _ _ _ _ _ => rfl, fun _ _ h => absurd h f, fun _ _ h => absurd h f⟩, .inr ⟨rfl, by omega⟩⟩
  · exact ⟨[], 4, ⟨fun _ => rfl, fun h1 h2 => absurd ⟨h1, h2⟩ c, fun h1 h2 => absurd ⟨h1, h2⟩ c, fun h1 h2 => absurd ⟨h1, h2⟩ c⟩, .inr ⟨rfl, by omega⟩⟩
end Go.Abs
