/-
  Chapter 7: the contract of the program's Marks.
-/
import Derived.Test.YtfokmdhmaabegaaS17
set_option linter.all false
namespace Go.Abs
set_option maxRecDepth 10000
set_option maxHeartbeats 2000000

/-- what is known of an edge that was looked at: with how few marks behind it both lengths match, and the first of them -/
def Good (m : List Span) (tol : Int) (n f : Nat) (k nx : Int) : Prop :=
  (k = -1 ∧ ∀ q, extL m tol n q f = none) ∨ (∃ (q : Nat) (l : List Int), k = q ∧ (∀ q' < q, extL m tol n q' f = none) ∧ extL m tol n q f = some l ∧ nx = l.headD 0)

section
variable {m : List Span} {tol : Int} {n : Nat}
theorem good_bound {f : Nat} {k nx : Int} (hf : f ≤ n) (h : Good m tol n f k nx) : k = -1 ∨ (0 ≤ k ∧ k ≤ n) := by
  rcases h with ⟨h, _⟩ | ⟨q, l, rfl, _, h, _⟩
  · exact .inl h
  · have := ext_bound hf h; right; omega

/-- what is known while the marks behind an edge are tried -/
def Inn (m : List Span) (tol : Int) (M : Nat → Int) (f to : Nat) (mn nx : Int) : Prop :=
  (mn = -1 ∧ ∀ t, f < t → t < to → segB m tol f t = true → M t = -1) ∨
  (∃ t0, f < t0 ∧ t0 < to ∧ segB m tol f t0 = true ∧ 0 ≤ M t0 ∧ mn = M t0 + 1 ∧ nx = t0 ∧ (∀ t, f < t → t < to → segB m tol f t = true → 0 ≤ M t → M t0 ≤ M t) ∧ (∀ t, f < t → t < t0 → segB m tol f t = true → 0 ≤ M t → M t0 < M t))
theorem inn_skip {M : Nat → Int} {f to : Nat} {mn nx : Int} (h : Inn m tol M f to mn nx) (hs : segB m tol f to = true → (M to = -1 ∨ (0 ≤ mn ∧ mn ≤ M to + 1))) : Inn m tol M f (to + 1) mn nx := by
  rcases h with ⟨h1, h2⟩ | ⟨t0, h1, h2, h3, h4, h5, h6, h7, h8⟩
  · refine .inl ⟨h1, fun t q1 q2 q3 => ?_⟩
    by_cases e : t = to
    · subst e; rcases hs q3 with h | h <;> omega
    · exact h2 t q1 (by omega) q3
  · refine .inr ⟨t0, h1, by omega, h3, h4, h5, h6, fun t q1 q2 q3 q4 => ?_, h8⟩
    by_cases e : t = to
    · subst e; rcases hs q3 with h | h <;> omega
    · exact h7 t q1 (by omega) q3 q4
theorem inn_take {M : Nat → Int} {f to : Nat} {mn nx : Int} (h : Inn m tol M f to mn nx) (hf : f < to) (hs : segB m tol f to = true) (hM : 0 ≤ M to) (hc : ¬ (0 ≤ mn ∧ mn ≤ M to + 1)) : Inn m tol M f (to + 1) (M to + 1) to := by
  refine .inr ⟨to, hf, by omega, hs, hM, rfl, rfl, fun t q1 q2 q3 q4 => ?_, fun t q1 q2 q3 q4 => ?_⟩
  all_goals
    rcases h with ⟨h1, h2⟩ | ⟨t0, h1, h2, h3, h4, h5, h6, h7, h8⟩
    · by_cases e : t = to
      · subst e; omega
      · have := h2 t q1 (by omega) q3; omega
    · by_cases e : t = to
      · subst e; omega
      · have := h7 t q1 (by omega) q3 q4; omega
theorem inn_good {M N : Nat → Int} {f : Nat} {mn nx : Int} (h : Inn m tol M f (n + 1) mn nx) (he : endB m tol f = false) (hg : ∀ t, f < t → t ≤ n → Good m tol n t (M t) (N t)) : Good m tol n f mn nx := by
  have h0 : extL m tol n 0 f = none := by simp [extL, he]
  rcases h with ⟨h1, h2⟩ | ⟨t0, h1, h2, h3, h4, h5, h6, h7, h8⟩
  · refine .inl ⟨h1, fun q => ?_⟩
    cases q with
    | zero => exact h0
    | succ q =>
      rw [ext_none]
      intro t q1 q2 q3
      have := h2 t q1 (by omega) q3
      rcases hg t q1 q2 with ⟨_, g⟩ | ⟨q', l, g, _⟩
      · exact g q
      · omega
  · rcases hg t0 h1 (by omega) with ⟨g, _⟩ | ⟨q0, l, g1, g2, g3, _⟩
    · omega
    · refine .inr ⟨q0 + 1, (t0 : Int) :: l, by omega, fun q' hq' => ?_, ?_, by rw [h6]; rfl⟩
      · cases q' with
        | zero => exact h0
        | succ q' =>
          rw [ext_none]
          intro t q1 q2 q3
          rcases hg t q1 q2 with ⟨_, g⟩ | ⟨q1', l', g, g', _⟩
          · exact g q'
          · have := h7 t q1 (by omega) q3 (by omega)
            exact g' q' (by omega)
      · refine ext_some h1 (by omega) h3 g3 fun t q1 q2 q3 => ?_
        rcases hg t q1 (by omega) with ⟨_, g⟩ | ⟨q1', l', g, g', _⟩
        · exact g q0
        · have := h8 t q1 q2 q3 (by omega)
          exact g' q0 (by omega)
end

theorem atI_get {l : List Int} {i : Nat} (h : i < l.length) : l[i]? = some (atI l i) := atI_eq h
theorem set_at {l : List Int} {i : Nat} (h : i < l.length) (x : Int) : (l.set i x)[i]? = some x := by rw [List.getElem?_set_self h]
theorem set_ne {l : List Int} {i j : Nat} (h : j < l.length) (e : j ≠ i) (x : Int) : (l.set i x)[j]? = some (atI l j) := by rw [List.getElem?_set_ne (fun h => e h.symm)]; exact atI_eq h
theorem atI_set {l : List Int} {i j : Nat} (h : i < l.length) (x : Int) : atI (l.set i x) j = if j = i then x else atI l j := by
  unfold atI
  by_cases e : j = i
  · subst e; rw [List.getElem?_set_self h]; simp
  · rw [List.getElem?_set_ne (fun h => e h.symm), if_neg e]
theorem set_same {l : List Int} {i : Nat} (h : i < l.length) : l.set i (atI l i) = l := by
  apply List.ext_getElem? ; intro j
  by_cases e : j = i
  · subst e; rw [List.getElem?_set_self h, atI_eq h]
  · rw [List.getElem?_set_ne (fun h => e h.symm)]

theorem Marks_ok (a b : List Part) (tol : Int) (p0 : (pairL a b).e = 0) (h0 : 0 ≤ tol) (h1 : tol ≤ 2000000) :
    lim F 34 [.list 3 (a.map Part.av), .list 3 (b.map Part.av), iv tol] = some (match marksO (moreL (widthsL a) (widthsL b)) tol (widthsL a).length with
      | some l => .tuple [.own 1 (l.map fun n => iv n), iv 0]
      | none => .tuple [.own 1 [], iv 7], []) := by
  have hq := pairOk (ts := []) p0
  have hn := hq.n200
  have hnp := newPair_ok a b
  have hw := within_ok 0 2000000 [tol] (by simp)
  simp only [List.map_cons, List.map_nil, List.all_cons, List.all_nil, Bool.and_true] at hw
  rw [decide_eq_true ⟨h0, h1⟩] at hw
  rw [hq.pa] at hnp
  simp only [PairL.av] at hnp
  have hms := fun k l h h1 h2 => marks_some (m := moreL (widthsL a) (widthsL b)) (tol := tol) (n := (widthsL a).length) (k := k) (l := l) h h1 h2
  have hmn := fun h => marks_none (m := moreL (widthsL a) (widthsL b)) (tol := tol) (n := (widthsL a).length) h
  have sm := hq.sm
  have lm := hq.lm
  have la := hq.la
  have lb := hq.lb
  have hen := fun f h => end_ok (.list 2 ((widthsL a).map Span.av)) (.list 2 ((widthsL b).map Span.av)) (moreL (widthsL a) (widthsL b)) f sm h ⟨_, _, rfl⟩ ⟨_, _, rfl⟩
  have hst := fun p q h1 h2 => stretch_ok (.list 2 ((widthsL a).map Span.av)) (.list 2 ((widthsL b).map Span.av)) (moreL (widthsL a) (widthsL b)) p q sm h1 h2 ⟨_, _, rfl⟩ ⟨_, _, rfl⟩
  clear hq la
  generalize hwa : widthsL a = wa at *
  generalize widthsL b = wb at *
  generalize moreL wa wb = m at *
  generalize hnn : wa.length = n at *
  have hwe : ∀ f, f ≤ n → lim F 71 [.list 2 ((sumsL (m.drop f)).map Span.av)] = some (iv (worstL (sumsL (m.drop f))), []) := by
    intro f hf
    have s2 : Small (m.drop f) := sm.sub (List.drop_sublist _ _)
    refine worst_ok _ (by simp [sumsL]; omega) fun s hs => ?_
    obtain ⟨j, hj, rfl⟩ := List.mem_map.1 hs
    have hj := List.mem_range.1 hj
    have := s2.pre j (by omega)
    have := s2.1
    unfold Mid; omega
  have hws : ∀ p q, p ≤ q → q ≤ n → lim F 71 [.list 2 ((strL (seg m p q)).map Span.av)] = some (iv (worstL (strL (seg m p q))), []) := by
    intro p q hp hq
    have s2 : Small (seg m p q) := sm.sub ((List.take_sublist _ _).trans (List.drop_sublist _ _))
    have hl : (seg m p q).length = q - p := seg_length hp (by omega)
    refine worst_ok _ (by simp [strL]; omega) fun s hs => ?_
    obtain ⟨j, hj, rfl⟩ := List.mem_map.1 hs
    have hj := List.mem_range.1 hj
    have := s2.pre j (by omega)
    have := s2.pre (seg m p q).length (by omega)
    unfold Mid strE; dsimp only; omega
  have hst : ∀ p q, p ≤ q → q ≤ n → lim F 74 [.agg [.list 2 (wa.map Span.av), .list 2 (wb.map Span.av), .list 2 (m.map Span.av)], iv p, iv q] = some (.tuple [.own 2 ((strL (seg m p q)).map Span.av), .bool (decide (pre (seg m p q) (q - p)).Has0)], []) :=
    fun p q h1 h2 => hst p q h1 (by omega)
  have hen : ∀ f, f ≤ n → lim F 73 [.agg [.list 2 (wa.map Span.av), .list 2 (wb.map Span.av), .list 2 (m.map Span.av)], iv f] = some (.own 2 ((sumsL (m.drop f)).map Span.av), []) :=
    fun f hf => hen f (by omega)
  have hsl : ∀ f, f ≤ n → (sumsL (m.drop f)).length = n - f + 1 := by intro f hf; simp [sumsL]; omega
  have htl : ∀ p q, p ≤ q → q ≤ n → (strL (seg m p q)).length = q - p + 1 := by intro p q h1 h2; simp [strL, seg_length h1 (by omega : q ≤ m.length)]
  clear sm hwa
  refine lim_by (fn := a34) (k := 3) (res := [.tmp 6, .tmp 7]) rfl rfl rfl (by simp -implicitDefEqProofs (maxSteps := 2000000) (disch := first | exact tt_rfl rfl | omega | (simp only [go_sem] <;> omega) | fail) only [go_sem]) ?_
  simp -implicitDefEqProofs (maxSteps := 2000000) (disch := first | exact tt_rfl rfl | omega | (simp only [go_sem] <;> omega) | fail) only [go_sem]
  repeat (first | apply Wp.seqA | apply Wp.skipS | apply Wp.blockS | ((first | apply Wp.regS | apply Wp.condV | apply Wp.reg | apply Wp.condW | apply fin_ret); simp -implicitDefEqProofs (maxSteps := 2000000) (disch := first | exact tt_rfl rfl | omega | (simp only [go_sem] <;> omega) | fail) only [go_sem, hnp, hw, lm, hnn, lb] <;> try with_reducible rfl) | apply Wp.block | apply Wp.exitS | apply Wp.retS | apply Wp.exit | apply Wp.ret | apply Wp.skip)
  apply Wp.loopN (n + 1) (fun i fr => ∃ L1 L2 : List Int, (fr = ⟨[(2, iv tol), (6, .slice 384 0 0), (8, .ptr 512 0 0), (9, iv n), (10, .slice 640 0 (n + 1)), (11, .slice 704 0 (n + 1)), (12, iv ((n : Int) - i))],
      [(512, .box [.slice 58192 0 n, .slice 58193 0 n, .slice 58194 0 n]), (640, .arr 1 (L1.map fun n => iv n)), (704, .arr 1 (L2.map fun n => iv n)), (58192, .arr 2 (wa.map Span.av)), (58193, .arr 2 (wb.map Span.av)), (58194, .arr 2 (m.map Span.av)), (384, .arr 1 [])], [], 1000000⟩ ∨
      fr = ⟨[(2, iv tol), (6, .slice 384 0 0), (8, .ptr 512 0 0), (9, iv n), (10, .slice 640 0 (n + 1)), (11, .slice 704 0 (n + 1)), (12, iv ((n : Int) - i))],
      [(384, .arr 1 []), (512, .box [.slice 58192 0 n, .slice 58193 0 n, .slice 58194 0 n]), (640, .arr 1 (L1.map fun n => iv n)), (704, .arr 1 (L2.map fun n => iv n)), (58192, .arr 2 (wa.map Span.av)), (58193, .arr 2 (wb.map Span.av)), (58194, .arr 2 (m.map Span.av))], [], 1000000⟩) ∧
      L1.length = n + 1 ∧ L2.length = n + 1 ∧ (∀ j, n < j + i → j ≤ n → Good m tol n j (atI L1 j) (atI L2 j)) ∧ (∀ j, j + i ≤ n → atI L1 j = 0 ∧ atI L2 j = 0))
  · simp -implicitDefEqProofs (maxSteps := 2000000) (disch := first | exact tt_rfl rfl | omega | (simp only [go_sem] <;> omega) | fail) only [go_sem, norm_eq, Ok.some, show ((n : Int) + 1).toNat = n + 1 by omega]
    refine ⟨List.replicate (n + 1) 0, List.replicate (n + 1) 0, .inl (by simp [hnn, lb, lm]), by simp, by simp, fun j h1 h2 => by omega, fun j hj => ?_⟩
    have : j < n + 1 := by omega
    simp [atI, List.getElem?_replicate, this]
  rintro i fr hi ⟨L1, L2, hfr, l1, l2, hgood, hzero⟩
  by_cases hin : i ≤ n
  · obtain ⟨f, hf⟩ : ∃ f : Nat, (n : Int) - i = f := ⟨n - i, by omega⟩
    rw [hf] at hfr
    obtain ⟨z1, z2⟩ := hzero f (by omega)
    have hfn : f < n + 1 := by omega
    have hen' := hen f (by omega)
    have hwe' := hwe f (by omega)
    have hsl' := hsl f (by omega)
    have hpos : (0 : Int) ≤ f := by omega
    by_cases c : worstL (sumsL (m.drop f)) ≤ tol
    · have hG : ∀ j, n < j + (i + 1) → j ≤ n → Good m tol n j (atI L1 j) (atI L2 j) := by
        intro j hj hjn
        by_cases e : j = f
        · subst e; rw [z1, z2]
          exact .inr ⟨0, [], rfl, fun q' h => by omega, by simp [extL, endB, c], rfl⟩
        · exact hgood j (by omega) hjn
      clear hst hen hwe hws hms hmn htl hsl hgood
      rcases hfr with rfl | rfl
      all_goals
        repeat (first | apply Wp.seqA | apply Wp.skipS | apply Wp.blockS | ((first | apply Wp.regS | apply Wp.condV | apply Wp.reg | apply Wp.condW | apply fin_ret); simp -implicitDefEqProofs (maxSteps := 2000000) (disch := first | exact tt_rfl rfl | omega | (simp only [go_sem] <;> omega) | fail) only [go_sem, hpos, hen', hwe', c] <;> try with_reducible rfl) | apply Wp.block | apply Wp.exitS | apply Wp.retS | apply Wp.exit | apply Wp.ret | apply Wp.skip)
        apply round_next
        · simp -implicitDefEqProofs (maxSteps := 2000000) (disch := first | exact tt_rfl rfl | omega | (simp only [go_sem] <;> omega) | fail) only [go_sem, norm_eq, Ok.some]; with_reducible rfl
        refine ⟨by omega, L1, L2, .inr ?_, l1, l2, hG, fun j hj => hzero j (by omega)⟩
        simp; omega
    · have hE : endB m tol f = false := by simp [endB, c]
      have hinn : ∀ mn nx, Inn m tol (atI L1) f (n + 1) mn nx → Good m tol n f mn nx := fun mn nx h => inn_good h hE fun t h1 h2 => hgood t (by omega) h2
      have hM : ∀ t, f < t → t ≤ n → atI L1 t = -1 ∨ (0 ≤ atI L1 t ∧ atI L1 t ≤ n) := fun t h1 h2 => good_bound h2 (hgood t (by omega) h2)
      have e0 : L2.set f 0 = L2 := by
        have := set_same (l := L2) (i := f) (by omega)
        rw [z2] at this; exact this
      have hms1 : ∀ x, (L1.map fun n => iv n).set f (iv x) = (L1.set f x).map fun n => iv n := fun x => by rw [List.map_set]
      clear hen hwe hmn hms hsl
      rcases hfr with rfl | rfl
      all_goals
        repeat (first | apply Wp.seqA | apply Wp.skipS | apply Wp.blockS | ((first | apply Wp.regS | apply Wp.condV | apply Wp.reg | apply Wp.condW | apply fin_ret); simp -implicitDefEqProofs (maxSteps := 2000000) (disch := first | exact tt_rfl rfl | omega | (simp only [go_sem] <;> omega) | fail) only [go_sem, hpos, hen', hwe', c, List.getElem?_map, atI_get (show f < L1.length by omega), Option.map_some, hms1] <;> try with_reducible rfl) | apply Wp.block | apply Wp.exitS | apply Wp.retS | apply Wp.exit | apply Wp.ret | apply Wp.skip)
        apply Wp.loopN (n - f) (fun k fr => ∃ mn nx, fr = ⟨[(2, iv tol), (6, .slice 384 0 0), (8, .ptr 512 0 0), (9, iv n), (10, .slice 640 0 (n + 1)), (11, .slice 704 0 (n + 1)), (12, iv f), (13, iv (f + 1 + k : Nat))],
          [(384, .arr 1 []), (512, .box [.slice 58192 0 n, .slice 58193 0 n, .slice 58194 0 n]), (640, .arr 1 ((L1.set f mn).map fun n => iv n)), (704, .arr 1 ((L2.set f nx).map fun n => iv n)), (58192, .arr 2 (wa.map Span.av)), (58193, .arr 2 (wb.map Span.av)), (58194, .arr 2 (m.map Span.av))], [], 1000000⟩ ∧ Inn m tol (atI L1) f (f + 1 + k) mn nx)
        · simp -implicitDefEqProofs (maxSteps := 2000000) (disch := first | exact tt_rfl rfl | omega | (simp only [go_sem] <;> omega) | fail) only [go_sem, norm_eq, Ok.some]
          exact ⟨-1, 0, by simp [e0], .inl ⟨rfl, fun t h1 h2 => by omega⟩⟩
        rintro k fr hk ⟨mn, nx, rfl, inn⟩
        by_cases hkn : f + 1 + k ≤ n
        · have hto : ((f + 1 + k : Nat) : Int) ≤ n := by omega
          have x1 : (L1.set f mn)[f + 1 + k]? = some (atI L1 (f + 1 + k)) := set_ne (by omega) (by omega) mn
          have x2 : (L1.set f mn)[f]? = some mn := set_at (by omega) mn
          have x3 : (L2.set f nx)[f]? = some nx := set_at (by omega) nx
          have hMt := hM (f + 1 + k) (by omega) hkn
          have hst' := hst f (f + 1 + k) (by omega) hkn
          have hws' := hws f (f + 1 + k) (by omega) hkn
          have htl' := htl f (f + 1 + k) (by omega) hkn
          have hsk := fun h => inn_skip inn h
          have htk := fun h1 h2 h3 => inn_take inn (by omega) h1 h2 h3
          have hsb : segB m tol f (f + 1 + k) = decide ((pre (seg m f (f + 1 + k)) (f + 1 + k - f)).Has0 ∧ worstL (strL (seg m f (f + 1 + k))) ≤ tol) := rfl
          have hmnb : mn ≤ 100000000 := by
            rcases inn with ⟨h, _⟩ | ⟨t0, q1, q2, _, q3, q4, _⟩
            · omega
            · have := hM t0 q1 (by omega); omega
          clear hst hws htl hgood hzero hinn inn hM hms1
          generalize hMv : atI L1 (f + 1 + k) = M at *
          by_cases c1 : M < 0
          · have hI := hsk fun _ => .inl (by omega)
            repeat (first | apply Wp.seqA | apply Wp.skipS | apply Wp.blockS | ((first | apply Wp.regS | apply Wp.condV | apply Wp.reg | apply Wp.condW | apply fin_ret); simp -implicitDefEqProofs (maxSteps := 2000000) (disch := first | exact tt_rfl rfl | omega | (simp only [go_sem] <;> omega) | fail) only [go_sem, hto, x1, x2, List.getElem?_map, Option.map_some, c1] <;> try with_reducible rfl) | apply Wp.block | apply Wp.exitS | apply Wp.retS | apply Wp.exit | apply Wp.ret | apply Wp.skip)
            apply round_next
            · simp -implicitDefEqProofs (maxSteps := 2000000) (disch := first | exact tt_rfl rfl | omega | (simp only [go_sem] <;> omega) | fail) only [go_sem, norm_eq, Ok.some]; with_reducible rfl
            refine ⟨by omega, mn, nx, by simp; omega, hI⟩
          · by_cases c2 : 0 ≤ mn ∧ mn ≤ M + 1
            · have hI := hsk fun _ => .inr c2
              obtain ⟨c21, c22⟩ := c2
              repeat (first | apply Wp.seqA | apply Wp.skipS | apply Wp.blockS | ((first | apply Wp.regS | apply Wp.condV | apply Wp.reg | apply Wp.condW | apply fin_ret); simp -implicitDefEqProofs (maxSteps := 2000000) (disch := first | exact tt_rfl rfl | omega | (simp only [go_sem] <;> omega) | fail) only [go_sem, hto, x1, x2, List.getElem?_map, Option.map_some, c1, c21, c22] <;> try with_reducible rfl) | apply Wp.block | apply Wp.exitS | apply Wp.retS | apply Wp.exit | apply Wp.ret | apply Wp.skip)
              apply round_next
              · simp -implicitDefEqProofs (maxSteps := 2000000) (disch := first | exact tt_rfl rfl | omega | (simp only [go_sem] <;> omega) | fail) only [go_sem, norm_eq, Ok.some]; with_reducible rfl
              refine ⟨by omega, mn, nx, by simp; omega, hI⟩
            · by_cases c3 : (pre (seg m f (f + 1 + k)) (f + 1 + k - f)).Has0
              · by_cases c4 : worstL (strL (seg m f (f + 1 + k))) ≤ tol
                · have hI := htk (by rw [hsb]; exact decide_eq_true ⟨c3, c4⟩) (by omega) c2
                  by_cases c21 : 0 ≤ mn
                  · have c22 : ¬ mn ≤ M + 1 := fun h => c2 ⟨c21, h⟩
                    repeat (first | apply Wp.seqA | apply Wp.skipS | apply Wp.blockS | ((first | apply Wp.regS | apply Wp.condV | apply Wp.reg | apply Wp.condW | apply fin_ret); simp -implicitDefEqProofs (maxSteps := 2000000) (disch := first | exact tt_rfl rfl | omega | (simp only [go_sem] <;> omega) | fail) only [go_sem, hto, x1, x2, x3, List.getElem?_map, Option.map_some, c1, c21, c22, hst', hws', htl', c3, c4] <;> try with_reducible rfl) | apply Wp.block | apply Wp.exitS | apply Wp.retS | apply Wp.exit | apply Wp.ret | apply Wp.skip)
                    apply round_next
                    · simp -implicitDefEqProofs (maxSteps := 2000000) (disch := first | exact tt_rfl rfl | omega | (simp only [go_sem] <;> omega) | fail) only [go_sem, norm_eq, Ok.some]; with_reducible rfl
                    refine ⟨by omega, M + 1, _, ?_, hI⟩
                    simp [List.map_set]; omega
                  · repeat (first | apply Wp.seqA | apply Wp.skipS | apply Wp.blockS | ((first | apply Wp.regS | apply Wp.condV | apply Wp.reg | apply Wp.condW | apply fin_ret); simp -implicitDefEqProofs (maxSteps := 2000000) (disch := first | exact tt_rfl rfl | omega | (simp only [go_sem] <;> omega) | fail) only [go_sem, hto, x1, x2, x3, List.getElem?_map, Option.map_some, c1, c21, hst', hws', htl', c3, c4] <;> try with_reducible rfl) | apply Wp.block | apply Wp.exitS | apply Wp.retS | apply Wp.exit | apply Wp.ret | apply Wp.skip)
                    apply round_next
                    · simp -implicitDefEqProofs (maxSteps := 2000000) (disch := first | exact tt_rfl rfl | omega | (simp only [go_sem] <;> omega) | fail) only [go_sem, norm_eq, Ok.some]; with_reducible rfl
                    refine ⟨by omega, M + 1, _, ?_, hI⟩
                    simp [List.map_set]; omega
                · have hI := hsk fun h => by rw [hsb] at h; exact absurd (of_decide_eq_true h).2 c4
                  by_cases c21 : 0 ≤ mn
                  · have c22 : ¬ mn ≤ M + 1 := fun h => c2 ⟨c21, h⟩
                    repeat (first | apply Wp.seqA | apply Wp.skipS | apply Wp.blockS | ((first | apply Wp.regS | apply Wp.condV | apply Wp.reg | apply Wp.condW | apply fin_ret); simp -implicitDefEqProofs (maxSteps := 2000000) (disch := first | exact tt_rfl rfl | omega | (simp only [go_sem] <;> omega) | fail) only [go_sem, hto, x1, x2, x3, List.getElem?_map, Option.map_some, c1, c21, c22, hst', hws', htl', c3, c4] <;> try with_reducible rfl) | apply Wp.block | apply Wp.exitS | apply Wp.retS | apply Wp.exit | apply Wp.ret | apply Wp.skip)
                    apply round_next
                    · simp -implicitDefEqProofs (maxSteps := 2000000) (disch := first | exact tt_rfl rfl | omega | (simp only [go_sem] <;> omega) | fail) only [go_sem, norm_eq, Ok.some]; with_reducible rfl
                    refine ⟨by omega, mn, nx, by simp; omega, hI⟩
                  · repeat (first | apply Wp.seqA | apply Wp.skipS | apply Wp.blockS | ((first | apply Wp.regS | apply Wp.condV | apply Wp.reg | apply Wp.condW | apply fin_ret); simp -implicitDefEqProofs (maxSteps := 2000000) (disch := first | exact tt_rfl rfl | omega | (simp only [go_sem] <;> omega) | fail) only [go_sem, hto, x1, x2, x3, List.getElem?_map, Option.map_some, c1, c21, hst', hws', htl', c3, c4] <;> try with_reducible rfl) | apply Wp.block | apply Wp.exitS | apply Wp.retS | apply Wp.exit | apply Wp.ret | apply Wp.skip)
                    apply round_next
                    · simp -implicitDefEqProofs (maxSteps := 2000000) (disch := first | exact tt_rfl rfl | omega | (simp only [go_sem] <;> omega) | fail) only [go_sem, norm_eq, Ok.some]; with_reducible rfl
                    refine ⟨by omega, mn, nx, by simp; omega, hI⟩
              · have hI := hsk fun h => by rw [hsb] at h; exact absurd (of_decide_eq_true h).1 c3
                by_cases c21 : 0 ≤ mn
                · have c22 : ¬ mn ≤ M + 1 := fun h => c2 ⟨c21, h⟩
                  repeat (first | apply Wp.seqA | apply Wp.skipS | apply Wp.blockS | ((first | apply Wp.regS | apply Wp.condV | apply Wp.reg | apply Wp.condW | apply fin_ret); simp -implicitDefEqProofs (maxSteps := 2000000) (disch := first | exact tt_rfl rfl | omega | (simp only [go_sem] <;> omega) | fail) only [go_sem, hto, x1, x2, x3, List.getElem?_map, Option.map_some, c1, c21, c22, hst', hws', htl', c3] <;> try with_reducible rfl) | apply Wp.block | apply Wp.exitS | apply Wp.retS | apply Wp.exit | apply Wp.ret | apply Wp.skip)
                  apply round_next
                  · simp -implicitDefEqProofs (maxSteps := 2000000) (disch := first | exact tt_rfl rfl | omega | (simp only [go_sem] <;> omega) | fail) only [go_sem, norm_eq, Ok.some]; with_reducible rfl
                  refine ⟨by omega, mn, nx, by simp; omega, hI⟩
                · repeat (first | apply Wp.seqA | apply Wp.skipS | apply Wp.blockS | ((first | apply Wp.regS | apply Wp.condV | apply Wp.reg | apply Wp.condW | apply fin_ret); simp -implicitDefEqProofs (maxSteps := 2000000) (disch := first | exact tt_rfl rfl | omega | (simp only [go_sem] <;> omega) | fail) only [go_sem, hto, x1, x2, x3, List.getElem?_map, Option.map_some, c1, c21, hst', hws', htl', c3] <;> try with_reducible rfl) | apply Wp.block | apply Wp.exitS | apply Wp.retS | apply Wp.exit | apply Wp.ret | apply Wp.skip)
                  apply round_next
                  · simp -implicitDefEqProofs (maxSteps := 2000000) (disch := first | exact tt_rfl rfl | omega | (simp only [go_sem] <;> omega) | fail) only [go_sem, norm_eq, Ok.some]; with_reducible rfl
                  refine ⟨by omega, mn, nx, by simp; omega, hI⟩
        · have ek : f + 1 + k = n + 1 := by omega
          rw [ek] at inn
          have hG := hinn mn nx inn
          repeat (first | apply Wp.seqA | apply Wp.skipS | apply Wp.blockS | ((first | apply Wp.regS | apply Wp.condV | apply Wp.reg | apply Wp.condW | apply fin_ret); simp -implicitDefEqProofs (maxSteps := 2000000) (disch := first | exact tt_rfl rfl | omega | (simp only [go_sem] <;> omega) | fail) only [go_sem, show ¬ ((f + 1 + k : Nat) : Int) ≤ n by omega] <;> try with_reducible rfl) | apply Wp.block | apply Wp.exitS | apply Wp.retS | apply Wp.exit | apply Wp.ret | apply Wp.skip)
          apply round_next
          · simp -implicitDefEqProofs (maxSteps := 2000000) (disch := first | exact tt_rfl rfl | omega | (simp only [go_sem] <;> omega) | fail) only [go_sem, norm_eq, Ok.some]; with_reducible rfl
          refine ⟨by omega, L1.set f mn, L2.set f nx, .inr ?_, by simp; omega, by simp; omega, fun j hj hjn => ?_, fun j hj => ?_⟩
          · simp; omega
          · rw [atI_set (by omega), atI_set (by omega)]
            by_cases e : j = f
            · subst e; rw [if_pos rfl, if_pos rfl]; exact hG
            · rw [if_neg e, if_neg e]; exact hgood j (by omega) hjn
          · rw [atI_set (by omega), atI_set (by omega), if_neg (by omega), if_neg (by omega)]
            exact hzero j (by omega)
  · obtain rfl : i = n + 1 := by omega
    have hg : ∀ j, j ≤ n → Good m tol n j (atI L1 j) (atI L2 j) := fun j hj => hgood j (by omega) hj
    have hneg : ¬ (0 : Int) ≤ (n : Int) - ((n + 1 : Nat) : Int) := by omega
    have y1 : L1[0]? = some (atI L1 0) := atI_eq (by omega)
    have y2 : L2[0]? = some (atI L2 0) := atI_eq (by omega)
    have hl1 : (0 : Int) < n + 1 := by omega
    clear hst hen hwe hws htl hsl hgood hzero
    rcases hg 0 (by omega) with ⟨g1, g2⟩ | ⟨q, l, g1, g2, g3, g4⟩
    · rw [hmn g2]
      rcases hfr with rfl | rfl
      all_goals
        repeat (first | apply Wp.seqA | apply Wp.skipS | apply Wp.blockS | ((first | apply Wp.regS | apply Wp.condV | apply Wp.reg | apply Wp.condW | apply fin_ret); simp -implicitDefEqProofs (maxSteps := 2000000) (disch := first | exact tt_rfl rfl | omega | (simp only [go_sem] <;> omega) | fail) only [go_sem, hneg, List.getElem?_map, y1, Option.map_some, show atI L1 0 < 0 by omega] <;> try with_reducible rfl) | apply Wp.block | apply Wp.exitS | apply Wp.retS | apply Wp.exit | apply Wp.ret | apply Wp.skip)
    · have hb := ext_bound (Nat.zero_le _) g3
      rw [hms q l (by omega) g3 g2]
      rcases hfr with rfl | rfl
      all_goals
        repeat (first | apply Wp.seqA | apply Wp.skipS | apply Wp.blockS | ((first | apply Wp.regS | apply Wp.condV | apply Wp.reg | apply Wp.condW | apply fin_ret); simp -implicitDefEqProofs (maxSteps := 2000000) (disch := first | exact tt_rfl rfl | omega | (simp only [go_sem] <;> omega) | fail) only [go_sem, hneg, List.getElem?_map, y1, y2, Option.map_some, show ¬ atI L1 0 < 0 by omega, g4] <;> try with_reducible rfl) | apply Wp.block | apply Wp.exitS | apply Wp.retS | apply Wp.exit | apply Wp.ret | apply Wp.skip)
        apply Wp.loopN (n + 1) (fun i fr => ∃ (A : List Int) (f q : Nat) (rest : List Int), fr = ⟨[(6, .slice 384 0 A.length), (11, .slice 704 0 (n + 1)), (16, iv (rest.headD 0))], [(384, .arr 1 (A.map fun n => iv n)), (704, .arr 1 (L2.map fun n => iv n))], [], 1000000⟩ ∧
          i = A.length ∧ f ≤ n ∧ extL m tol n q f = some rest ∧ (∀ q' < q, extL m tol n q' f = none) ∧ l = A ++ rest)
        · simp -implicitDefEqProofs (maxSteps := 2000000) (disch := first | exact tt_rfl rfl | omega | (simp only [go_sem] <;> omega) | fail) only [go_sem, norm_eq, Ok.some]
          exact ⟨[], 0, q, l, by simp, rfl, by omega, g3, g2, rfl⟩
        clear y1 y2 g1 g2 g3 g4 hneg hms hmn
        rintro i fr hi ⟨A, f, q1, rest, rfl, rfl, hfn, h3, h2, hl⟩
        have hAl : A.length ≤ n := by rw [hl] at hb; simp at hb; omega
        cases rest with
        | nil =>
          repeat (first | apply Wp.seqA | apply Wp.skipS | apply Wp.blockS | ((first | apply Wp.regS | apply Wp.condV | apply Wp.reg | apply Wp.condW | apply fin_ret); simp -implicitDefEqProofs (maxSteps := 2000000) (disch := first | exact tt_rfl rfl | omega | (simp only [go_sem] <;> omega) | fail) only [go_sem, List.headD_nil, Int.lt_irrefl] <;> try with_reducible rfl) | apply Wp.block | apply Wp.exitS | apply Wp.retS | apply Wp.exit | apply Wp.ret | apply Wp.skip)
          rw [hl, List.append_nil]
        | cons t rest =>
          cases q1 with
          | zero =>
            have := (ext_bound hfn h3).2
            simp at this
          | succ q1 =>
            obtain ⟨t', r', e, k1, k2, k3, k4, _⟩ := ext_inv h3
            simp only [List.cons.injEq] at e
            obtain ⟨rfl, rfl⟩ := e
            have hmin : ∀ q' < q1, extL m tol n q' t' = none := fun q' hq' => ext_none.1 (h2 (q' + 1) (by omega)) t' k1 k2 k3
            have y3 : L2[t']? = some (atI L2 t') := atI_eq (by omega)
            have hnx : atI L2 t' = rest.headD 0 := by
              rcases hg t' k2 with ⟨_, g⟩ | ⟨q2, l2', g1, g2, g3, g4⟩
              · rw [g q1] at k4; cases k4
              · have : q2 = q1 := by
                  rcases Nat.lt_trichotomy q2 q1 with h | h | h
                  · rw [hmin q2 h] at g3; cases g3
                  · exact h
                  · rw [g2 q1 h] at k4; cases k4
                subst this
                rw [k4] at g3; cases g3; exact g4
            have ht0 : (0 : Int) < t' := by omega
            repeat (first | apply Wp.seqA | apply Wp.skipS | apply Wp.blockS | ((first | apply Wp.regS | apply Wp.condV | apply Wp.reg | apply Wp.condW | apply fin_ret); simp -implicitDefEqProofs (maxSteps := 2000000) (disch := first | exact tt_rfl rfl | omega | (simp only [go_sem] <;> omega) | fail) only [go_sem, List.headD_cons, ht0, List.getElem?_map, y3, Option.map_some, hnx] <;> try with_reducible rfl) | apply Wp.block | apply Wp.exitS | apply Wp.retS | apply Wp.exit | apply Wp.ret | apply Wp.skip)
            apply round_next
            · simp -implicitDefEqProofs (maxSteps := 2000000) (disch := first | exact tt_rfl rfl | omega | (simp only [go_sem] <;> omega) | fail) only [go_sem, norm_eq, Ok.some]; with_reducible rfl
            refine ⟨?_, A ++ [(t' : Int)], t', q1, rest, by simp, by simp, k2, k4, hmin, by simp [hl]⟩
            rw [hl] at hb; simp at hb; omega
end Go.Abs
