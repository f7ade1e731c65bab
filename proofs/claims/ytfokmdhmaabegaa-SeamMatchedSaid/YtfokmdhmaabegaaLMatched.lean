/-
  Chapter 7: the statement SeamMatched returns true.
-/
import Derived.Test.YtfokmdhmaabegaaS39
import Derived.Test.YtfokmdhmaabegaaKnown
set_option linter.all false
namespace Go.Abs
set_option maxRecDepth 10000
set_option maxHeartbeats 8000000

theorem seamMatched_ok (x : Cloth) (wi : Int) (hwi : 0 ≤ wi ∧ wi ≤ 255) : lim F 9 [x.av, .int .u8 wi] = some (.bool true, []) := by
  have hkn := known_ok
  have hL := lengths_ok x
  have hqs := qs_len x
  have hM := marks_ok x x.qs.length (by omega)
  have oa := ones_a x
  have ob := ones_b x
  have lna : (x.qs.map Quad.pa).length = x.qs.length := List.length_map _
  have lnb : (x.qs.map Quad.pb).length = x.qs.length := List.length_map _
  obtain ⟨t1, t2⟩ := edges_ts (m := x.marks) (n := x.qs.length)
  have tl := edges_len x.marks x.qs.length
  generalize hn : x.qs.length = n at *
  generalize x.qs.map Quad.pa = a at *
  generalize x.qs.map Quad.pb = b at *
  generalize edgesL x.marks n = ts at *
  have hab : a.length = b.length := by omega
  have p0 := ones_pair oa ob hab
  have hwl := ones_wlen oa
  have hS := Marks_ok a b wi p0 (by omega) (by omega)
  have hup := ones_up oa ob hab (ts := ts) (by rw [lna]; exact t1) t2
  have hco : IntKind.wrap .i64 wi = wi := wrap_id (by omega) (by omega)
  have hown1 := own_ok a (by omega)
  have hown2 := own_ok b (by omega)
  have hint1 := ints_ok ts (by omega)
  have hmin := marks_least (m := moreL (widthsL a) (widthsL b)) (tol := wi) hup
  have hma := ones_match oa ob hab (ts := ts) (tol := wi) (by omega) hup
  have hahd := ones_ahead oa ob hab (ts := ts) (by rw [lna]; exact t1) t2
  have hMk : (∃ l : List Int, marksO (moreL (widthsL a) (widthsL b)) wi (widthsL a).length = some l ∧ l.length ≤ n ∧
      lim F 34 [.list 3 (a.map Part.av), .list 3 (b.map Part.av), iv wi] = some (.tuple [.own 1 (l.map fun n => iv n), iv 0], []) ∧
      lim F 40 [.list 1 (l.map fun n => iv n)] = some (.own 1 (l.map fun n => iv n), []) ∧
      lim F 27 [.list 3 (a.map Part.av), .list 3 (b.map Part.av), .list 1 (l.map fun n => iv n), iv wi] = some (.tuple [iv 0, iv 0, iv 7], []) ∧
      ∃ w : Int, w ≤ wi ∧ lim F 28 [.list 3 (a.map Part.av), .list 3 (b.map Part.av), .list 1 (l.map fun n => iv n)] = some (.tuple [iv w, iv 0], [])) ∨
      (marksO (moreL (widthsL a) (widthsL b)) wi (widthsL a).length = none ∧ lim F 34 [.list 3 (a.map Part.av), .list 3 (b.map Part.av), iv wi] = some (.tuple [.own 1 [], iv 7], [])) := by
    cases hmo : marksO (moreL (widthsL a) (widthsL b)) wi (widthsL a).length with
    | none => rw [hmo] at hS; exact .inr ⟨rfl, hS⟩
    | some l =>
      rw [hmo] at hS
      obtain ⟨k1, k2, k3⟩ := marks_inv hmo
      rw [hwl] at k3
      obtain ⟨k4, k5⟩ := (ones_match oa ob hab (ts := l) (tol := wi) (by omega) k2).1 k1
      have hl := Least_ok a b l (by omega)
      rw [k4] at hl
      exact .inl ⟨l, rfl, by omega, hS, ints_ok l (by omega), part_none (by omega) k4 (by omega) k5, _, k5, hl⟩
  clear hS
  simp only [Cloth.av] at *
  rcases hahd with hok | ⟨h9, _⟩
  · by_cases hw : worstL (openL a b ts) ≤ wi
    · have hP := part_none (tol := wi) (by omega) hok.e (by omega) hw
      obtain ⟨l', hl', hlt⟩ := hmin (hma.2 ⟨hok.e, hw⟩)
      rcases hMk with ⟨l, hl, k1, k2, k3, k4, w, k5, k6⟩ | ⟨hl, _⟩
      · obtain rfl : l' = l := Option.some.inj (hl'.symm.trans hl)
        clear hma hmin hup hok
        refine lim_by (fn := a9) (k := 2) (res := [.tmp 4]) rfl rfl rfl (by simp -implicitDefEqProofs (maxSteps := 2000000) (disch := first | exact tt_rfl rfl | omega | (simp only [go_sem] <;> omega) | fail) only [go_sem]) ?_
        simp -implicitDefEqProofs (maxSteps := 2000000) (disch := first | exact tt_rfl rfl | omega | (simp only [go_sem] <;> omega) | fail) only [go_sem]
        repeat (first | apply Wp.seqA | apply Wp.skipS | apply Wp.blockS | ((first | apply Wp.regS | apply Wp.condV | apply Wp.reg | apply Wp.condW | apply fin_ret); simp -implicitDefEqProofs (maxSteps := 2000000) (disch := first | exact tt_rfl rfl | omega | (simp only [go_sem] <;> omega) | fail) only [go_sem, hL, hM, hkn, hown1, hown2, hint1, hco, lna, lnb, hn, hP, k2, k3, k4, k6, show ¬ wi < w by omega, show ¬ (n : Int) < l'.length by omega, show (l'.length : Int) ≤ ts.length by omega] <;> try with_reducible rfl) | apply Wp.block | apply Wp.exitS | apply Wp.retS | apply Wp.exit | apply Wp.ret | apply Wp.skip)
      · rw [hl] at hl'; cases hl'
    · obtain ⟨i, hi, h1, h2, hP⟩ := part_some (tol := wi) (by omega) hok.e (by omega) hw
      have hlen := hok.len
      have hi0 : 1 ≤ i := by
        apply Classical.byContradiction
        intro c
        obtain rfl : i = 0 := by omega
        rw [hok.first] at h1
        simp [farL] at h1; omega
      have hord := (hok.right (at' (openL a b ts) i) (by rw [at'_get hi]; exact List.getElem_mem _))
      have hsin := fun v hv => show_in oa (b := b) (ts := ts) (by omega) hok.e (edge := i) (by omega) (x := v) hv
      have hsout := fun v hv => show_out oa (b := b) (ts := ts) (by omega) hok.e (edge := i) (by omega) (x := v) hv
      have hsok := fun (v : Int) (u : TruthA) (h : TruthOk (widthsL a) (widthsL b) ts (widthsL a).length i v u) => truthOk_fits oa ob hab h
      rw [lna] at hlen
      clear hma hmin hup hok h2
      generalize hs : at' (openL a b ts) i = s at *
      obtain ⟨lo, hi'⟩ := s
      unfold RightAt at hord
      dsimp only at hord hsin hsout
      obtain ⟨r1, r2, r3⟩ := hord
      have hfar : farL ⟨lo, hi'⟩ = max hi' (0 - lo) := rfl
      generalize hfv : farL ⟨lo, hi'⟩ = fv at *
      have e1 : ¬ (i : Int) < 1 := by omega
      have e2 : ¬ (n : Int) < i := by omega
      have e3 : ¬ fv ≤ wi := by omega
      have hfit : ∀ (v : Int) (u : TruthA), TruthOk (widthsL a) (widthsL b) ts (widthsL a).length i v u → 
          lim F 51 [u.av, .list 3 (a.map Part.av), .list 3 (b.map Part.av)] = some (.bool true, []) ∧ lim F 52 [u.av] = some (.own 1 (((List.range (n + 1)).map (ahT u.a u.b)).map fun n => iv n), []) ∧
          ((List.range (n + 1)).map (ahT u.a u.b))[i]? = some v ∧ u.a.length = n ∧ u.b.length = n := by
        intro v u h
        obtain ⟨ua, ub, uf, ur⟩ := hsok v u h
        refine ⟨fits_ok u a b n lna lnb (by omega) (by omega) (by omega) uf, ahead_ok u n (by omega) (by omega) (by omega) (fun i hi => ur i (by omega)), ?_, by omega, by omega⟩
        rw [← h.edge]
        simp [show i < n + 1 by omega]
      clear hsok
      have e5 : fv * 1 = fv := by omega
      have e4 : (i : Int) < ((n + 1 : Nat) : Int) := by omega
      by_cases hin : lo ≤ fv ∧ fv ≤ hi'
      · obtain ⟨u, hu, hto⟩ := hsin fv hin
        obtain ⟨f1, f2, f3, f4, f5⟩ := hfit _ _ hto
        clear hsin hsout hfit hto
        simp only [TruthA.av] at f1 f2
        rcases hMk with ⟨l, hl, k1, k2, k3, k4, w, k5, k6⟩ | ⟨hl, k2⟩
        · refine lim_by (fn := a9) (k := 2) (res := [.tmp 4]) rfl rfl rfl (by simp -implicitDefEqProofs (maxSteps := 2000000) (disch := first | exact tt_rfl rfl | omega | (simp only [go_sem] <;> omega) | fail) only [go_sem]) ?_
          simp -implicitDefEqProofs (maxSteps := 2000000) (disch := first | exact tt_rfl rfl | omega | (simp only [go_sem] <;> omega) | fail) only [go_sem]
          repeat (first | apply Wp.seqA | apply Wp.skipS | apply Wp.blockS | ((first | apply Wp.regS | apply Wp.condV | apply Wp.reg | apply Wp.condW | apply fin_ret); simp -implicitDefEqProofs (maxSteps := 2000000) (disch := first | exact tt_rfl rfl | omega | (simp only [go_sem] <;> omega) | fail) only [go_sem, hL, hM, hkn, hown1, hown2, hint1, hco, lna, lnb, hn, hP, k2, k3, k4, k6, show ¬ wi < w by omega, show ¬ (n : Int) < l.length by omega, e1, e2, e3] <;> try with_reducible rfl) | apply Wp.block | apply Wp.exitS | apply Wp.retS | apply Wp.exit | apply Wp.ret | apply Wp.skip)
          apply Wp.loopF 0 (fun j => ⟨[(5, .slice 320 0 n), (6, .slice 384 0 n), (11, .slice 704 0 ts.length), (12, iv i), (13, iv fv), (20, iv j)], [(320, .arr 3 (a.map Part.av)), (384, .arr 3 (b.map Part.av)), (704, .arr 1 (ts.map fun n => iv n))], [], 1000000⟩) (fun _ => True)
          · simp -implicitDefEqProofs (maxSteps := 2000000) (disch := first | exact tt_rfl rfl | omega | (simp only [go_sem] <;> omega) | fail) only [go_sem, norm_eq, Ok.some]
          · trivial
          intro j hj _
          obtain rfl : j = 0 := by omega
          repeat (first | apply Wp.seqA | apply Wp.skipS | apply Wp.blockS | ((first | apply Wp.regS | apply Wp.condV | apply Wp.reg | apply Wp.condW | apply fin_ret); simp -implicitDefEqProofs (maxSteps := 2000000) (disch := first | exact tt_rfl rfl | omega | (simp only [go_sem] <;> omega) | fail) only [go_sem, hown1, hown2, hint1, hu, f1, f2, List.getElem?_map, f3, f4, f5, Option.map_some, hkn, e4, e5] <;> try with_reducible rfl) | apply Wp.block | apply Wp.exitS | apply Wp.retS | apply Wp.exit | apply Wp.ret | apply Wp.skip)
        · refine lim_by (fn := a9) (k := 2) (res := [.tmp 4]) rfl rfl rfl (by simp -implicitDefEqProofs (maxSteps := 2000000) (disch := first | exact tt_rfl rfl | omega | (simp only [go_sem] <;> omega) | fail) only [go_sem]) ?_
          simp -implicitDefEqProofs (maxSteps := 2000000) (disch := first | exact tt_rfl rfl | omega | (simp only [go_sem] <;> omega) | fail) only [go_sem]
          repeat (first | apply Wp.seqA | apply Wp.skipS | apply Wp.blockS | ((first | apply Wp.regS | apply Wp.condV | apply Wp.reg | apply Wp.condW | apply fin_ret); simp -implicitDefEqProofs (maxSteps := 2000000) (disch := first | exact tt_rfl rfl | omega | (simp only [go_sem] <;> omega) | fail) only [go_sem, hL, hM, hkn, hown1, hown2, hint1, hco, lna, lnb, hn, hP, k2, e1, e2, e3] <;> try with_reducible rfl) | apply Wp.block | apply Wp.exitS | apply Wp.retS | apply Wp.exit | apply Wp.ret | apply Wp.skip)
          apply Wp.loopF 0 (fun j => ⟨[(5, .slice 320 0 n), (6, .slice 384 0 n), (11, .slice 704 0 ts.length), (12, iv i), (13, iv fv), (20, iv j)], [(320, .arr 3 (a.map Part.av)), (384, .arr 3 (b.map Part.av)), (704, .arr 1 (ts.map fun n => iv n))], [], 1000000⟩) (fun _ => True)
          · simp -implicitDefEqProofs (maxSteps := 2000000) (disch := first | exact tt_rfl rfl | omega | (simp only [go_sem] <;> omega) | fail) only [go_sem, norm_eq, Ok.some]
          · trivial
          intro j hj _
          obtain rfl : j = 0 := by omega
          repeat (first | apply Wp.seqA | apply Wp.skipS | apply Wp.blockS | ((first | apply Wp.regS | apply Wp.condV | apply Wp.reg | apply Wp.condW | apply fin_ret); simp -implicitDefEqProofs (maxSteps := 2000000) (disch := first | exact tt_rfl rfl | omega | (simp only [go_sem] <;> omega) | fail) only [go_sem, hown1, hown2, hint1, hu, f1, f2, List.getElem?_map, f3, f4, f5, Option.map_some, hkn, e4, e5] <;> try with_reducible rfl) | apply Wp.block | apply Wp.exitS | apply Wp.retS | apply Wp.exit | apply Wp.ret | apply Wp.skip)
      · have hu0 := hsout fv hin
        obtain ⟨u, hu, hto⟩ := hsin (0 - fv) (by omega)
        have e6 : fv * -1 = 0 - fv := by omega
        obtain ⟨f1, f2, f3, f4, f5⟩ := hfit _ _ hto
        clear hsin hsout hfit hto
        simp only [TruthA.av] at f1 f2
        rcases hMk with ⟨l, hl, k1, k2, k3, k4, w, k5, k6⟩ | ⟨hl, k2⟩
        · refine lim_by (fn := a9) (k := 2) (res := [.tmp 4]) rfl rfl rfl (by simp -implicitDefEqProofs (maxSteps := 2000000) (disch := first | exact tt_rfl rfl | omega | (simp only [go_sem] <;> omega) | fail) only [go_sem]) ?_
          simp -implicitDefEqProofs (maxSteps := 2000000) (disch := first | exact tt_rfl rfl | omega | (simp only [go_sem] <;> omega) | fail) only [go_sem]
          repeat (first | apply Wp.seqA | apply Wp.skipS | apply Wp.blockS | ((first | apply Wp.regS | apply Wp.condV | apply Wp.reg | apply Wp.condW | apply fin_ret); simp -implicitDefEqProofs (maxSteps := 2000000) (disch := first | exact tt_rfl rfl | omega | (simp only [go_sem] <;> omega) | fail) only [go_sem, hL, hM, hkn, hown1, hown2, hint1, hco, lna, lnb, hn, hP, k2, k3, k4, k6, show ¬ wi < w by omega, show ¬ (n : Int) < l.length by omega, e1, e2, e3] <;> try with_reducible rfl) | apply Wp.block | apply Wp.exitS | apply Wp.retS | apply Wp.exit | apply Wp.ret | apply Wp.skip)
          apply Wp.loopF 1 (fun j => ⟨[(5, .slice 320 0 n), (6, .slice 384 0 n), (11, .slice 704 0 ts.length), (12, iv i), (13, iv fv), (20, iv j)], [(320, .arr 3 (a.map Part.av)), (384, .arr 3 (b.map Part.av)), (704, .arr 1 (ts.map fun n => iv n))], [], 1000000⟩) (fun _ => True)
          · simp -implicitDefEqProofs (maxSteps := 2000000) (disch := first | exact tt_rfl rfl | omega | (simp only [go_sem] <;> omega) | fail) only [go_sem, norm_eq, Ok.some]
          · trivial
          intro j hj _
          have hj' : j = 0 ∨ j = 1 := by omega
          rcases hj' with rfl | rfl
          · repeat (first | apply Wp.seqA | apply Wp.skipS | apply Wp.blockS | ((first | apply Wp.regS | apply Wp.condV | apply Wp.reg | apply Wp.condW | apply fin_ret); simp -implicitDefEqProofs (maxSteps := 2000000) (disch := first | exact tt_rfl rfl | omega | (simp only [go_sem] <;> omega) | fail) only [go_sem, hown1, hown2, hint1, hu0, e5] <;> try with_reducible rfl) | apply Wp.block | apply Wp.exitS | apply Wp.retS | apply Wp.exit | apply Wp.ret | apply Wp.skip)
            apply round_next
            · simp -implicitDefEqProofs (maxSteps := 2000000) (disch := first | exact tt_rfl rfl | omega | (simp only [go_sem] <;> omega) | fail) only [go_sem, norm_eq, Ok.some]; with_reducible rfl
            exact ⟨by omega, by simp, trivial⟩
          · repeat (first | apply Wp.seqA | apply Wp.skipS | apply Wp.blockS | ((first | apply Wp.regS | apply Wp.condV | apply Wp.reg | apply Wp.condW | apply fin_ret); simp -implicitDefEqProofs (maxSteps := 2000000) (disch := first | exact tt_rfl rfl | omega | (simp only [go_sem] <;> omega) | fail) only [go_sem, hown1, hown2, hint1, hu, f1, f2, List.getElem?_map, f3, f4, f5, Option.map_some, hkn, e4, e6] <;> try with_reducible rfl) | apply Wp.block | apply Wp.exitS | apply Wp.retS | apply Wp.exit | apply Wp.ret | apply Wp.skip)
        · refine lim_by (fn := a9) (k := 2) (res := [.tmp 4]) rfl rfl rfl (by simp -implicitDefEqProofs (maxSteps := 2000000) (disch := first | exact tt_rfl rfl | omega | (simp only [go_sem] <;> omega) | fail) only [go_sem]) ?_
          simp -implicitDefEqProofs (maxSteps := 2000000) (disch := first | exact tt_rfl rfl | omega | (simp only [go_sem] <;> omega) | fail) only [go_sem]
          repeat (first | apply Wp.seqA | apply Wp.skipS | apply Wp.blockS | ((first | apply Wp.regS | apply Wp.condV | apply Wp.reg | apply Wp.condW | apply fin_ret); simp -implicitDefEqProofs (maxSteps := 2000000) (disch := first | exact tt_rfl rfl | omega | (simp only [go_sem] <;> omega) | fail) only [go_sem, hL, hM, hkn, hown1, hown2, hint1, hco, lna, lnb, hn, hP, k2, e1, e2, e3] <;> try with_reducible rfl) | apply Wp.block | apply Wp.exitS | apply Wp.retS | apply Wp.exit | apply Wp.ret | apply Wp.skip)
          apply Wp.loopF 1 (fun j => ⟨[(5, .slice 320 0 n), (6, .slice 384 0 n), (11, .slice 704 0 ts.length), (12, iv i), (13, iv fv), (20, iv j)], [(320, .arr 3 (a.map Part.av)), (384, .arr 3 (b.map Part.av)), (704, .arr 1 (ts.map fun n => iv n))], [], 1000000⟩) (fun _ => True)
          · simp -implicitDefEqProofs (maxSteps := 2000000) (disch := first | exact tt_rfl rfl | omega | (simp only [go_sem] <;> omega) | fail) only [go_sem, norm_eq, Ok.some]
          · trivial
          intro j hj _
          have hj' : j = 0 ∨ j = 1 := by omega
          rcases hj' with rfl | rfl
          · repeat (first | apply Wp.seqA | apply Wp.skipS | apply Wp.blockS | ((first | apply Wp.regS | apply Wp.condV | apply Wp.reg | apply Wp.condW | apply fin_ret); simp -implicitDefEqProofs (maxSteps := 2000000) (disch := first | exact tt_rfl rfl | omega | (simp only [go_sem] <;> omega) | fail) only [go_sem, hown1, hown2, hint1, hu0, e5] <;> try with_reducible rfl) | apply Wp.block | apply Wp.exitS | apply Wp.retS | apply Wp.exit | apply Wp.ret | apply Wp.skip)
            apply round_next
            · simp -implicitDefEqProofs (maxSteps := 2000000) (disch := first | exact tt_rfl rfl | omega | (simp only [go_sem] <;> omega) | fail) only [go_sem, norm_eq, Ok.some]; with_reducible rfl
            exact ⟨by omega, by simp, trivial⟩
          · repeat (first | apply Wp.seqA | apply Wp.skipS | apply Wp.blockS | ((first | apply Wp.regS | apply Wp.condV | apply Wp.reg | apply Wp.condW | apply fin_ret); simp -implicitDefEqProofs (maxSteps := 2000000) (disch := first | exact tt_rfl rfl | omega | (simp only [go_sem] <;> omega) | fail) only [go_sem, hown1, hown2, hint1, hu, f1, f2, List.getElem?_map, f3, f4, f5, Option.map_some, hkn, e4, e6] <;> try with_reducible rfl) | apply Wp.block | apply Wp.exitS | apply Wp.retS | apply Wp.exit | apply Wp.ret | apply Wp.skip)
  · have hP := part_err (tol := wi) (ts := ts) (by omega) (by rw [h9]; omega)
    rw [h9] at hP
    clear hma hmin hup
    rcases hMk with ⟨l, hl, k1, k2, k3, k4, w, k5, k6⟩ | ⟨hl, k2⟩
    · refine lim_by (fn := a9) (k := 2) (res := [.tmp 4]) rfl rfl rfl (by simp -implicitDefEqProofs (maxSteps := 2000000) (disch := first | exact tt_rfl rfl | omega | (simp only [go_sem] <;> omega) | fail) only [go_sem]) ?_
      simp -implicitDefEqProofs (maxSteps := 2000000) (disch := first | exact tt_rfl rfl | omega | (simp only [go_sem] <;> omega) | fail) only [go_sem]
      repeat (first | apply Wp.seqA | apply Wp.skipS | apply Wp.blockS | ((first | apply Wp.regS | apply Wp.condV | apply Wp.reg | apply Wp.condW | apply fin_ret); simp -implicitDefEqProofs (maxSteps := 2000000) (disch := first | exact tt_rfl rfl | omega | (simp only [go_sem] <;> omega) | fail) only [go_sem, hL, hM, hkn, hown1, hown2, hint1, hco, lna, lnb, hn, hP, k2, k3, k4, k6, show ¬ wi < w by omega, show ¬ (n : Int) < l.length by omega] <;> try with_reducible rfl) | apply Wp.block | apply Wp.exitS | apply Wp.retS | apply Wp.exit | apply Wp.ret | apply Wp.skip)
    · refine lim_by (fn := a9) (k := 2) (res := [.tmp 4]) rfl rfl rfl (by simp -implicitDefEqProofs (maxSteps := 2000000) (disch := first | exact tt_rfl rfl | omega | (simp only [go_sem] <;> omega) | fail) only [go_sem]) ?_
      simp -implicitDefEqProofs (maxSteps := 2000000) (disch := first | exact tt_rfl rfl | omega | (simp only [go_sem] <;> omega) | fail) only [go_sem]
      repeat (first | apply Wp.seqA | apply Wp.skipS | apply Wp.blockS | ((first | apply Wp.regS | apply Wp.condV | apply Wp.reg | apply Wp.condW | apply fin_ret); simp -implicitDefEqProofs (maxSteps := 2000000) (disch := first | exact tt_rfl rfl | omega | (simp only [go_sem] <;> omega) | fail) only [go_sem, hL, hM, hkn, hown1, hown2, hint1, hco, lna, lnb, hn, hP, k2] <;> try with_reducible rfl) | apply Wp.block | apply Wp.exitS | apply Wp.retS | apply Wp.exit | apply Wp.ret | apply Wp.skip)
end Go.Abs
