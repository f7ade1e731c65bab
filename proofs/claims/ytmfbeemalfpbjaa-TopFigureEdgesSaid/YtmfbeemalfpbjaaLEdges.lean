/-
  TopFigureEdges: what it looks at is so, for every take-up in bytes, all picks and marks.
-/
import Derived.Test.YtmfbeemalfpbjaaT1
set_option linter.all false
namespace Go.Abs
set_option maxRecDepth 10000
set_option maxHeartbeats 8000000
open Go.Abs.Beam (TakeA PairT checkT longT longR nT dT tmod_nat tdiv_nat figE SpanOk)

theorem mul_inT {a b A B : Int} (a0 : 0 ≤ a) (a1 : a ≤ A) (b0 : 0 ≤ b) (b1 : b ≤ B) : 0 ≤ a * b ∧ a * b ≤ A * B := ⟨Int.mul_nonneg a0 b0, Int.mul_le_mul a1 b1 b0 (by omega)⟩
theorem edges_main (x : GearB) (many : Int) (hm : 0 ≤ many ∧ many ≤ 255) (mk : Int) (hk : 0 ≤ mk ∧ mk ≤ 4294967295) (n : Nat) (hn : Int.tmod many 40 = (n : Int) - 1) (n1 : 1 ≤ n) (n2 : n ≤ 40) :
    lim F 3 [x.av, .int .u8 many, .int .u32 mk] = some (.bool true, []) := by
  have a1 := armBeam_ok
  have a2 := armSeam_ok
  have hc := gearB_ok x
  have h0 := armTake_ok x
  have h1 := Beam.Take_ok x.t
  rw [if_pos hc, hc] at h1
  have h2 := armWidth_ok x
  obtain ⟨b0, b1, b2⟩ := gearB_bound x
  obtain ⟨w1, w2, w3⟩ := wid_le x
  have hsp := x.span
  have fh := fig_hi x
  have fl := fig_lo x
  have hF := fun i (h1 : 1 ≤ i) (h2 : i ≤ 40) => Beam.Figure_ok x.t x.lo x.hi i
  have hE : ∀ i : Int, 1 ≤ i → i ≤ 40 → figE x.t x.lo x.hi i = 0 := fun i h1 h2 => by unfold figE; rw [if_pos hc, if_pos (by exact ⟨by omega, by omega, by omega⟩), if_pos (by omega)]
  have hlong : ∀ i : Int, 1 ≤ i → i ≤ 40 → longT x.t i x.hi ≤ longT x.t i x.lo := fun i h1 h2 => (Beam.tkR hc (p := i) (by omega) (by omega)).mono (by omega)
  have p1 := Places_ok [⟨n, max 1 (widLo x), max 1 (widHi x)⟩]
  have p2 := fun ts (h : ts.length ≤ 1000) => Ahead_ok [⟨n, max 1 (widLo x), max 1 (widHi x)⟩] [⟨n, max 1 (widLo x), max 1 (widHi x)⟩] ts h
  have hnn : (1 + ((n : Int) - 1)) = n := by omega
  generalize hlo : x.lo = rlo at *
  generalize hhi : x.hi = rhi at *
  generalize x.t = t at *
  unfold Beam.TakeA.av at *
  unfold Beam.takeV at h1
  unfold GearB.av at *
  refine lim_by (fn := a3) (k := 3) (res := [.tmp 6]) rfl rfl rfl (by simp -implicitDefEqProofs (maxSteps := 2000000) (disch := first | exact tt_rfl rfl | omega | (simp only [go_sem] <;> omega) | fail) only [go_sem]) ?_
  simp -implicitDefEqProofs (maxSteps := 2000000) (disch := first | exact tt_rfl rfl | omega | (simp only [go_sem] <;> omega) | fail) only [go_sem]
  by_cases hbig : 10000 < max 1 (widHi x)
  · repeat (first | apply Wp.seqA | apply Wp.skipS | apply Wp.blockS | ((first | apply Wp.regS | apply Wp.condV | apply Wp.reg | apply Wp.condW | apply fin_ret); simp -implicitDefEqProofs (maxSteps := 2000000) (disch := first | exact tt_rfl rfl | omega | (simp only [go_sem] <;> omega) | fail) only [go_sem, h0, h1, h2, hn, hnn, gt_iff_lt, show ¬ dT t < 1 by omega, show ¬ nT t < 1 by omega, show ¬ (100000000 : Int) < nT t by omega, show ¬ (100000 : Int) < dT t by omega, hbig, a1, a2] <;> try with_reducible rfl) | apply Wp.block | apply Wp.exitS | apply Wp.retS | apply Wp.exit | apply Wp.ret | apply Wp.skip)
  have hck : checkL [⟨n, max 1 (widLo x), max 1 (widHi x)⟩] = 0 := by
    unfold checkL
    repeat' split
    all_goals first | rfl | (exfalso; simp [picksL, Part.Ok] at * <;> omega)
  have hwid : widthsL [⟨n, max 1 (widLo x), max 1 (widHi x)⟩] = List.replicate n ⟨max 1 (widLo x), max 1 (widHi x)⟩ := by simp [widthsL, Part.w]
  have hP : placesL [⟨n, max 1 (widLo x), max 1 (widHi x)⟩] = sumsL (List.replicate n ⟨max 1 (widLo x), max 1 (widHi x)⟩) := by unfold placesL; rw [if_pos hck, hwid]
  have hPi : ∀ i : Nat, i ≤ n → (sumsL (List.replicate n (⟨max 1 (widLo x), max 1 (widHi x)⟩ : Span)))[i]? = some ⟨i * max 1 (widLo x), i * max 1 (widHi x)⟩ := fun i hi => by
    unfold sumsL
    rw [List.getElem?_map, List.length_replicate, List.getElem?_range (by omega), Option.map_some, pre_rep _ _ i hi]
  have hPl : (sumsL (List.replicate n (⟨max 1 (widLo x), max 1 (widHi x)⟩ : Span))).length = n + 1 := by simp [sumsL]
  have hpair : (pairL [⟨n, max 1 (widLo x), max 1 (widHi x)⟩] [⟨n, max 1 (widLo x), max 1 (widHi x)⟩]).e = 0 ∧ (pairL [⟨n, max 1 (widLo x), max 1 (widHi x)⟩] [⟨n, max 1 (widLo x), max 1 (widHi x)⟩]).more = List.replicate n ⟨-(max 1 (widHi x) - max 1 (widLo x)), max 1 (widHi x) - max 1 (widLo x)⟩ := by
    unfold pairL
    rw [if_neg (by rw [hck]; simp), if_neg (by rw [hck]; simp), if_neg (by simp), hwid]
    refine ⟨rfl, ?_⟩
    simp [moreL, Span.sub]
    omega
  have hsym := sym_go (max 1 (widHi x) - max 1 (widLo x)) (by omega) n
  rw [hck, hP] at p1
  have hlow : ∀ i : Int, 0 ≤ i → 1 < max 1 (widLo x) → i * max 1 (widLo x) ≤ longT t i rhi := fun i hi h => by
    rw [show max 1 (widLo x) = widLo x by omega]; exact fl i hi
  have hhigh : ∀ i : Int, 0 ≤ i → longT t i rlo ≤ i * max 1 (widHi x) := fun i hi => by
    rw [show max 1 (widHi x) = widHi x by omega]; exact fh i hi
  have hwb : max 1 (widHi x) ≤ 10000 ∧ max 1 (widLo x) ≤ max 1 (widHi x) ∧ 1 ≤ max 1 (widLo x) := by omega
  unfold openL openE at p2
  rw [hpair.1, hpair.2] at p2
  clear fl fh hck hwid hP hpair w1 w2 w3 b0 hbig
  generalize sumsL (List.replicate n (⟨max 1 (widLo x), max 1 (widHi x)⟩ : Span)) = P at *
  generalize max 1 (widHi x) = wh at *
  generalize max 1 (widLo x) = wl at *
  simp only [List.map_cons, List.map_nil, Part.av] at p1 p2
  have hPl' : (P.map Span.av).length = n + 1 := by simpa using hPl
  repeat (first | apply Wp.seqA | apply Wp.skipS | apply Wp.blockS | ((first | apply Wp.regS | apply Wp.condV | apply Wp.reg | apply Wp.condW | apply fin_ret); simp -implicitDefEqProofs (maxSteps := 2000000) (disch := first | exact tt_rfl rfl | omega | (simp only [go_sem] <;> omega) | fail) only [go_sem, h0, h1, h2, hn, hnn, gt_iff_lt, show ¬ dT t < 1 by omega, show ¬ nT t < 1 by omega, show ¬ (100000000 : Int) < nT t by omega, show ¬ (100000 : Int) < dT t by omega, show ¬ (10000 : Int) < wh by omega, show ¬ wl < 1 by omega, p1, hPl', Part.av.eq_1, hPl, eq_true (show ((n + 1 : Nat) : Int) = (n : Int) + 1 by omega)] <;> try with_reducible rfl) | apply Wp.block | apply Wp.exitS | apply Wp.retS | apply Wp.exit | apply Wp.ret | apply Wp.skip)
  apply Wp.loopF n (fun i => ⟨[(2, .int .u32 mk), (7, .ptr 448 0 0), (8, .ptr 512 0 0), (9, iv n), (12, .ptr 768 0 0), (13, .slice 832 0 1), (14, .slice 896 0 (n + 1)), (16, iv ((i + 1 : Nat) : Int))], [(448, .box [iv t.rat, iv t.step, .slice 307170 0 t.pairs.length, iv t.round]), (512, .box [iv rlo, iv rhi]), (768, .box [iv wl, iv wh]), (832, .arr 3 [.agg [iv n, iv wl, iv wh]]), (896, .arr 2 (P.map Span.av)), (307170, .arr 2 (t.pairs.map PairT.av))], [], 10000000⟩) (fun _ => True)
  · simp -implicitDefEqProofs (maxSteps := 2000000) (disch := first | exact tt_rfl rfl | omega | (simp only [go_sem] <;> omega) | fail) only [go_sem, norm_eq, Ok.some]
    try rfl
  · trivial
  intro i hi _
  by_cases hin : i < n
  · have hFi := hF ((i + 1 : Nat) : Int) (by omega) (by omega)
    rw [hE ((i + 1 : Nat) : Int) (by omega) (by omega), if_pos rfl, if_pos rfl] at hFi
    have g1 := hlong ((i + 1 : Nat) : Int) (by omega) (by omega)
    have g2 := hhigh ((i + 1 : Nat) : Int) (by omega)
    have g3 := hlow ((i + 1 : Nat) : Int) (by omega)
    have g4 := hPi (i + 1) (by omega)
    have hi1 : ((i + 1 : Nat) : Int) ≤ n := by omega
    have hi2 : ((i + 1 : Nat) : Int) < ((n + 1 : Nat) : Int) := by omega
    have hi3 : 0 ≤ ((i + 1 : Nat) : Int) ∧ ((i + 1 : Nat) : Int) ≤ 40 := by omega
    generalize ((i + 1 : Nat) : Int) * wl = pl at g3 g4
    generalize ((i + 1 : Nat) : Int) * wh = ph at g2 g4
    generalize longT t ((i + 1 : Nat) : Int) rhi = sl at *
    generalize longT t ((i + 1 : Nat) : Int) rlo = sh at *
    by_cases hw1 : sl < pl
    · have hw2 : ¬ 1 < wl := fun h => by have := g3 h; omega
      repeat (first | apply Wp.seqA | apply Wp.skipS | apply Wp.blockS | ((first | apply Wp.regS | apply Wp.condV | apply Wp.reg | apply Wp.condW | apply fin_ret); simp -implicitDefEqProofs (maxSteps := 2000000) (disch := first | exact tt_rfl rfl | omega | (simp only [go_sem] <;> omega) | fail) only [go_sem, hi1, hi2, hFi, hPl', List.getElem?_map, g4, Option.map_some, Span.av.eq_1, gt_iff_lt, Int.not_lt.2 g1, Int.not_lt.2 g2, hw1, hw2] <;> try with_reducible rfl) | apply Wp.block | apply Wp.exitS | apply Wp.retS | apply Wp.exit | apply Wp.ret | apply Wp.skip)
      apply round_next
      · simp -implicitDefEqProofs (maxSteps := 2000000) (disch := first | exact tt_rfl rfl | omega | (simp only [go_sem] <;> omega) | fail) only [go_sem, norm_eq, Ok.some]; with_reducible rfl
      exact ⟨hin, by simp, trivial⟩
    · repeat (first | apply Wp.seqA | apply Wp.skipS | apply Wp.blockS | ((first | apply Wp.regS | apply Wp.condV | apply Wp.reg | apply Wp.condW | apply fin_ret); simp -implicitDefEqProofs (maxSteps := 2000000) (disch := first | exact tt_rfl rfl | omega | (simp only [go_sem] <;> omega) | fail) only [go_sem, hi1, hi2, hFi, hPl', List.getElem?_map, g4, Option.map_some, Span.av.eq_1, gt_iff_lt, Int.not_lt.2 g1, Int.not_lt.2 g2, hw1] <;> try with_reducible rfl) | apply Wp.block | apply Wp.exitS | apply Wp.retS | apply Wp.exit | apply Wp.ret | apply Wp.skip)
      apply round_next
      · simp -implicitDefEqProofs (maxSteps := 2000000) (disch := first | exact tt_rfl rfl | omega | (simp only [go_sem] <;> omega) | fail) only [go_sem, norm_eq, Ok.some]; with_reducible rfl
      exact ⟨hin, by simp, trivial⟩
  obtain rfl : n = i := by omega
  clear hi hin
  repeat (first | apply Wp.seqA | apply Wp.skipS | apply Wp.blockS | ((first | apply Wp.regS | apply Wp.condV | apply Wp.reg | apply Wp.condW | apply fin_ret); simp -implicitDefEqProofs (maxSteps := 2000000) (disch := first | exact tt_rfl rfl | omega | (simp only [go_sem] <;> omega) | fail) only [go_sem, show ¬ ((n + 1 : Nat) : Int) ≤ (n : Int) by omega] <;> try with_reducible rfl) | apply Wp.block | apply Wp.exitS | apply Wp.retS | apply Wp.exit | apply Wp.ret | apply Wp.skip)
  apply Wp.loopN (min n 31) (fun i fr => ∃ ts : List Int, fr = ⟨[(2, .int .u32 mk), (9, iv n), (12, .ptr 768 0 0), (13, .slice 832 0 1), (19, .slice 1216 0 ts.length), (20, iv ((i + 1 : Nat) : Int))], [(768, .box [iv wl, iv wh]), (832, .arr 3 [.agg [iv n, iv wl, iv wh]]), (1216, .arr 1 (ts.map fun n => iv n))], [], 10000000⟩ ∧
    ts.length ≤ i ∧ (∀ t ∈ ts, 1 ≤ t ∧ t ≤ i) ∧ incL ts = true)
  · simp -implicitDefEqProofs (maxSteps := 2000000) (disch := first | exact tt_rfl rfl | omega | (simp only [go_sem] <;> omega) | fail) only [go_sem, norm_eq, Ok.some]
    exact ⟨[], rfl, by simp, by simp, rfl⟩
  rintro i fr hi ⟨ts, rfl, hl, hts, hinc⟩
  have htl : (ts.map fun n => iv n).length = ts.length := by simp
  by_cases hin : i < min n 31
  · have i1 : ((i + 1 : Nat) : Int) ≤ n := by omega
    have i2 : ((i + 1 : Nat) : Int) < 32 := by omega
    have i3 : 0 ≤ ((i + 1 : Nat) : Int) ∧ ((i + 1 : Nat) : Int) ≤ 40 := by omega
    repeat (first | apply Wp.seqA | apply Wp.skipS | apply Wp.blockS | ((first | apply Wp.regS | apply Wp.condV | apply Wp.reg | apply Wp.condW | apply fin_ret); simp -implicitDefEqProofs (maxSteps := 2000000) (disch := first | exact tt_rfl rfl | omega | (simp only [go_sem] <;> omega) | fail) only [go_sem, i1, i2, htl] <;> try with_reducible rfl) | apply Wp.block | apply Wp.exitS | apply Wp.retS | apply Wp.exit | apply Wp.ret | apply Wp.skip)
    generalize decide (IntKind.wrap .u32 _ = (1 : Int)) = q
    cases q
    rotate_left
    · repeat (first | apply Wp.seqA | apply Wp.skipS | apply Wp.blockS | ((first | apply Wp.regS | apply Wp.condV | apply Wp.reg | apply Wp.condW | apply fin_ret); simp -implicitDefEqProofs (maxSteps := 2000000) (disch := first | exact tt_rfl rfl | omega | (simp only [go_sem] <;> omega) | fail) only [go_sem, i1, i2, htl] <;> try with_reducible rfl) | apply Wp.block | apply Wp.exitS | apply Wp.retS | apply Wp.exit | apply Wp.ret | apply Wp.skip)
      apply round_next (Q := fun _ _ => False)
      · simp -implicitDefEqProofs (maxSteps := 2000000) (disch := first | exact tt_rfl rfl | omega | (simp only [go_sem] <;> omega) | fail) only [go_sem, norm_eq, Ok.some]; with_reducible rfl
      refine ⟨hin, ts ++ [((i + 1 : Nat) : Int)], by simp, by simp; omega, fun t ht => ?_, ?_⟩
      · rcases List.mem_append.1 ht with h | h
        · have := hts t h; omega
        · rw [List.mem_singleton.1 h]; omega
      · rw [incL_iff] at hinc ⊢
        intro j hj
        rw [List.length_append, List.length_singleton] at hj
        by_cases hjl : j + 1 < ts.length
        · rw [List.getElem_append_left (by omega), List.getElem_append_left hjl]
          exact hinc j hjl
        · rw [List.getElem_append_left (by omega), List.getElem_append_right (by omega)]
          have := hts ts[j] (List.getElem_mem (by omega))
          simp only [List.getElem_singleton]
          omega
    · repeat (first | apply Wp.seqA | apply Wp.skipS | apply Wp.blockS | ((first | apply Wp.regS | apply Wp.condV | apply Wp.reg | apply Wp.condW | apply fin_ret); simp -implicitDefEqProofs (maxSteps := 2000000) (disch := first | exact tt_rfl rfl | omega | (simp only [go_sem] <;> omega) | fail) only [go_sem, i1, i2, htl] <;> try with_reducible rfl) | apply Wp.block | apply Wp.exitS | apply Wp.retS | apply Wp.exit | apply Wp.ret | apply Wp.skip)
      apply round_next (Q := fun _ _ => False)
      · simp -implicitDefEqProofs (maxSteps := 2000000) (disch := first | exact tt_rfl rfl | omega | (simp only [go_sem] <;> omega) | fail) only [go_sem, norm_eq, Ok.some]; with_reducible rfl
      exact ⟨hin, ts, by simp, by omega, fun t ht => by have := hts t ht; omega, hinc⟩
  have hx : ¬ ((i + 1 : Nat) : Int) ≤ n ∨ ((i + 1 : Nat) : Int) ≤ n ∧ ¬ ((i + 1 : Nat) : Int) < 32 := by omega
  have hin' : i ≤ n := by omega
  have hall : (ts.all fun t => decide (1 ≤ t ∧ t ≤ n)) = true := List.all_eq_true.2 fun t ht => by
    have := hts t ht
    exact decide_eq_true (by omega)
  obtain ⟨T, t1, t2, t3⟩ := hsym ts 0 (by omega) (up_of (fun t ht => by have := hts t ht; omega) hinc)
  have p3 := p2 ts (by omega)
  rw [List.length_replicate, t1] at p3
  simp only [ne_eq, not_true_eq_false, if_false, hall, hinc, Option.isSome_some, Option.getD_some, Bool.true_eq_false, if_true] at p3
  clear p2 hsym
  repeat (first | apply Wp.seqA | apply Wp.skipS | apply Wp.blockS | ((first | apply Wp.regS | apply Wp.condV | apply Wp.reg | apply Wp.condW | apply fin_ret); simp -implicitDefEqProofs (maxSteps := 2000000) (disch := first | exact tt_rfl rfl | omega | (simp only [go_sem] <;> omega) | fail) only [go_sem] <;> try with_reducible rfl) | apply Wp.block | apply Wp.exitS | apply Wp.retS | apply Wp.exit | apply Wp.ret | apply Wp.skip)
  · refine (?_ : _ = some (⟨[(2, .int .u32 mk), (9, iv n), (12, .ptr 768 0 0), (13, .slice 832 0 1), (19, .slice 1216 0 ts.length), (20, iv ((i + 1 : Nat) : Int)), (146, .bool false)], [(768, .box [iv wl, iv wh]), (832, .arr 3 [.agg [iv n, iv wl, iv wh]]), (1216, .arr 1 (ts.map fun n => iv n))], [], 10000224⟩ : Fr))
    rcases hx with h | ⟨h, h'⟩
    · simp -implicitDefEqProofs (maxSteps := 2000000) (disch := first | exact tt_rfl rfl | omega | (simp only [go_sem] <;> omega) | fail) only [go_sem, h]
    · simp -implicitDefEqProofs (maxSteps := 2000000) (disch := first | exact tt_rfl rfl | omega | (simp only [go_sem] <;> omega) | fail) only [go_sem, h, h']
  have etk : (ts.map fun n => iv n).take ts.length = ts.map fun n => iv n := List.take_of_length_le (by simp)
  have hTl : (T.map Span.av).length = n + 1 := by simp [t2]
  have hTl2 : T.length = n + 1 := by omega
  repeat (first | apply Wp.seqA | apply Wp.skipS | apply Wp.blockS | ((first | apply Wp.regS | apply Wp.condV | apply Wp.reg | apply Wp.condW | apply fin_ret); simp -implicitDefEqProofs (maxSteps := 2000000) (disch := first | exact tt_rfl rfl | omega | (simp only [go_sem] <;> omega) | fail) only [go_sem, p3, etk, htl, hTl, hTl2, eq_true (show ((n + 1 : Nat) : Int) = (n : Int) + 1 by omega)] <;> try with_reducible rfl) | apply Wp.block | apply Wp.exitS | apply Wp.retS | apply Wp.exit | apply Wp.ret | apply Wp.skip)
  apply Wp.loopF (n + 1) (fun i => ⟨[(9, iv n), (12, .ptr 768 0 0), (21, .slice 1344 0 (n + 1)), (23, iv i)], [(768, .box [iv wl, iv wh]), (1344, .arr 2 (T.map Span.av))], [], 10000000⟩) (fun _ => True)
  · simp -implicitDefEqProofs (maxSteps := 2000000) (disch := first | exact tt_rfl rfl | omega | (simp only [go_sem] <;> omega) | fail) only [go_sem, norm_eq, Ok.some]
    try rfl
  · trivial
  intro j hj _
  by_cases hjn : j < n + 1
  · have hg : T[j]? = some T[j] := List.getElem?_eq_getElem (by omega)
    obtain ⟨x1, x2, x3⟩ := t3 j _ hg
    generalize T[j] = y at *
    obtain ⟨yl, yh⟩ := y
    simp only at x1 x2 x3
    have hm := mul_inT (a := (j : Int)) (b := wh - wl) (A := 40) (B := 10000) (by omega) (by omega) (by omega) (by omega)
    obtain rfl : yl = 0 - yh := by omega
    generalize hpr : (j : Int) * (wh - wl) = pr at *
    repeat (first | apply Wp.seqA | apply Wp.skipS | apply Wp.blockS | ((first | apply Wp.regS | apply Wp.condV | apply Wp.reg | apply Wp.condW | apply fin_ret); simp -implicitDefEqProofs (maxSteps := 2000000) (disch := first | exact tt_rfl rfl | omega | (simp only [go_sem] <;> omega) | fail) only [go_sem, show (j : Int) ≤ n by omega, show (j : Int) < ((n + 1 : Nat) : Int) by omega, hTl, List.getElem?_map, hg, Option.map_some, Span.av.eq_1, bne_self_eq_false, gt_iff_lt, hpr, Int.not_lt.2 x3] <;> try with_reducible rfl) | apply Wp.block | apply Wp.exitS | apply Wp.retS | apply Wp.exit | apply Wp.ret | apply Wp.skip)
    apply round_next
    · simp -implicitDefEqProofs (maxSteps := 2000000) (disch := first | exact tt_rfl rfl | omega | (simp only [go_sem] <;> omega) | fail) only [go_sem, norm_eq, Ok.some]; with_reducible rfl
    exact ⟨hjn, by simp, trivial⟩
  · repeat (first | apply Wp.seqA | apply Wp.skipS | apply Wp.blockS | ((first | apply Wp.regS | apply Wp.condV | apply Wp.reg | apply Wp.condW | apply fin_ret); simp -implicitDefEqProofs (maxSteps := 2000000) (disch := first | exact tt_rfl rfl | omega | (simp only [go_sem] <;> omega) | fail) only [go_sem, show ¬ (j : Int) ≤ n by omega, a1, a2] <;> try with_reducible rfl) | apply Wp.block | apply Wp.exitS | apply Wp.retS | apply Wp.exit | apply Wp.ret | apply Wp.skip)

theorem topFigureEdges_ok (x : GearB) (many : Int) (hm : 0 ≤ many ∧ many ≤ 255) (mk : Int) (hk : 0 ≤ mk ∧ mk ≤ 4294967295) : lim F 3 [x.av, .int .u8 many, .int .u32 mk] = some (.bool true, []) := by
  have e := Int.tmod_eq_emod_of_nonneg (a := many) (b := 40) hm.1
  exact edges_main x many hm mk hk (many % 40 + 1).toNat (by rw [e]; omega) (by omega) (by omega)
end Go.Abs
