/-
  Chapter 7: contracts of the reference's Match, Try, Marks.
-/
import Derived.Test.YtfokmdhmaabegaaS16
set_option linter.all false
namespace Go.Abs
set_option maxRecDepth 10000
set_option maxHeartbeats 1000000

theorem up_all {n : Nat} : ∀ {ts : List Int} {f : Int}, Up n f ts → ∀ t ∈ ts, f < t ∧ t ≤ n
  | [], _, _ => by simp
  | t :: ts, f, h => by
    obtain ⟨h1, h2, h3⟩ := h
    intro x hx
    rcases List.mem_cons.1 hx with rfl | hx
    · exact ⟨h1, h2⟩
    · have := up_all h3 x hx; omega
theorem up_inc {n : Nat} : ∀ {ts : List Int} {f : Int}, Up n f ts → incL ts = true
  | [], _, _ => rfl
  | [t], _, _ => rfl
  | t :: u :: ts, f, h => by
    obtain ⟨h1, h2, h3⟩ := h
    simp only [incL, Bool.and_eq_true, decide_eq_true_eq]
    exact ⟨h3.1, up_inc h3⟩
theorem up_len {n : Nat} : ∀ {ts : List Int} {f : Nat}, f ≤ n → Up n f ts → f + ts.length ≤ n
  | [], f, hf, _ => hf
  | t :: ts, f, hf, h => by
    obtain ⟨h1, h2, h3⟩ := h
    have := up_len (n := n) (ts := ts) (f := t.toNat) (by omega) (by rw [Int.toNat_of_nonneg (by omega)]; exact h3)
    simp; omega
theorem up_snoc {n : Nat} : ∀ {ps : List Int} {f t : Nat}, Up n f ps → lastOf f ps < t → t ≤ n → Up n f (ps ++ [(t : Int)])
  | [], f, t, _, h1, h2 => ⟨by simp [lastOf] at h1; omega, by omega, trivial⟩
  | p :: ps, f, t, h, h1, h2 => by
    obtain ⟨u1, u2, u3⟩ := h
    refine ⟨u1, u2, ?_⟩
    have := up_snoc (ps := ps) (f := p.toNat) (t := t) (by rw [Int.toNat_of_nonneg (by omega)]; exact u3) h1 h2
    rw [Int.toNat_of_nonneg (by omega)] at this; exact this
theorem last_get : ∀ {ps : List Int} {f : Nat}, 0 < ps.length → lastOf f ps = (atI ps (ps.length - 1)).toNat
  | [p], f, _ => by simp [lastOf, atI]
  | p :: q :: ps, f, _ => by
    have := last_get (ps := q :: ps) (f := p.toNat) (by simp)
    simp only [lastOf] at this ⊢
    rw [this]
    simp [atI]
theorem last_le {n : Nat} : ∀ {ps : List Int} {f : Nat}, f ≤ n → Up n f ps → lastOf f ps ≤ n
  | [], f, hf, _ => hf
  | p :: ps, f, hf, h => by
    obtain ⟨h1, h2, h3⟩ := h
    exact last_le (n := n) (ps := ps) (f := p.toNat) (by omega) (by rw [Int.toNat_of_nonneg (by omega)]; exact h3)

theorem refMatch_ok (a b : List Part) (ts : List Int) (tol : Int) (hts : ts.length ≤ 1000) (p0 : (pairL a b).e = 0) (h0 : 0 ≤ tol) (hu : Up (widthsL a).length 0 ts) :
    lim F 89 [.list 3 (a.map Part.av), .list 3 (b.map Part.av), .list 1 (ts.map fun n => iv n), iv tol] = some (.bool (matchGo (moreL (widthsL a) (widthsL b)) tol 0 ts), []) := by
  have hq := pairOk (ts := ts) p0
  have hm := match_go (m := moreL (widthsL a) (widthsL b)) h0 (ts := ts) (f := 0) (by omega) (by rw [hq.lm]; exact hu)
  have hal := up_all hu
  have hall : (ts.all fun t => decide (1 ≤ t ∧ t ≤ (pairL a b).more.length)) = true := by
    rw [List.all_eq_true]
    intro t ht
    have := hal t ht
    rw [hq.pa]; simp only [decide_eq_true_eq, hq.lm]; omega
  have hinc := up_inc hu
  obtain ⟨m1, m2⟩ := ahead_ref p0 hall hinc
  have hra := refAhead_ok a b ts hts hq.ca hq.cb hq.ab
  rw [hm]
  rw [hq.pa] at m1 m2
  simp only at m1 m2
  cases hgo : aheadGo (moreL (widthsL a) (widthsL b)) 0 ts with
  | none =>
    obtain ⟨i, hi, hb⟩ := m2 hgo
    have hra := hra (.tuple [.own 2 [], .bool false]) (fun hg => absurd hb (hg i hi)) (fun _ _ _ => rfl)
    refine lim_by (fn := a89) (k := 4) (res := [.tmp 8]) rfl rfl rfl (by simp -implicitDefEqProofs (maxSteps := 2000000) (disch := first | exact tt_rfl rfl | omega | (simp only [go_sem] <;> omega) | fail) only [go_sem]) ?_
    simp -implicitDefEqProofs (maxSteps := 2000000) (disch := first | exact tt_rfl rfl | omega | (simp only [go_sem] <;> omega) | fail) only [go_sem]
    repeat (first | apply Wp.seqA | apply Wp.skipS | apply Wp.blockS | ((first | apply Wp.regS | apply Wp.condV | apply Wp.reg | apply Wp.condW | apply fin_ret); simp -implicitDefEqProofs (maxSteps := 2000000) (disch := first | exact tt_rfl rfl | omega | (simp only [go_sem] <;> omega) | fail) only [go_sem, hra] <;> try with_reducible rfl) | apply Wp.block | apply Wp.exitS | apply Wp.retS | apply Wp.exit | apply Wp.ret | apply Wp.skip)
  | some l =>
    obtain ⟨hg, hl⟩ := m1 l hgo
    have o : openE a b ts = 0 := by
      unfold openE
      rw [if_neg (by rw [p0]; simp), if_neg (by rw [hall]; simp), if_neg (by rw [hinc]; simp), if_neg (by rw [hq.pa]; simp [hgo])]
    have e2 : openL a b ts = l := by
      unfold openL
      rw [if_pos o, hq.pa]; simp [hgo]
    have hW := Worst_ok l (by rw [← e2]; have := open_len (a := a) (b := b) (ts := ts); omega) (by rw [← e2]; exact open_mid)
    have hra := hra (.tuple [.own 2 (l.map Span.av), .bool true]) (fun _ => by rw [hl]) (fun i hi hb => absurd hb (hg i hi))
    by_cases c : worstL l ≤ tol
    all_goals
      refine lim_by (fn := a89) (k := 4) (res := [.tmp 8]) rfl rfl rfl (by simp -implicitDefEqProofs (maxSteps := 2000000) (disch := first | exact tt_rfl rfl | omega | (simp only [go_sem] <;> omega) | fail) only [go_sem]) ?_
      simp -implicitDefEqProofs (maxSteps := 2000000) (disch := first | exact tt_rfl rfl | omega | (simp only [go_sem] <;> omega) | fail) only [go_sem]
      repeat (first | apply Wp.seqA | apply Wp.skipS | apply Wp.blockS | ((first | apply Wp.regS | apply Wp.condV | apply Wp.reg | apply Wp.condW | apply fin_ret); simp -implicitDefEqProofs (maxSteps := 2000000) (disch := first | exact tt_rfl rfl | omega | (simp only [go_sem] <;> omega) | fail) only [go_sem, hra, hW, c] <;> try with_reducible rfl) | apply Wp.block | apply Wp.exitS | apply Wp.retS | apply Wp.exit | apply Wp.ret | apply Wp.skip)

theorem refTry_ok (a b : List Part) (tol : Int) (p0 : (pairL a b).e = 0) (h0 : 0 ≤ tol) : ∀ (k : Nat) (ps : List Int), k ≤ 1000 → Up (widthsL a).length 0 ps →
    ∃ r, lim F 75 [.list 3 (a.map Part.av), .list 3 (b.map Part.av), iv tol, .list 1 (ps.map fun n => iv n), iv k] = some r ∧
      (∀ l, tryO (moreL (widthsL a) (widthsL b)) tol (widthsL a).length k ps = some l → r = (.tuple [.list 1 (l.map fun n => iv n), .bool true], [])) ∧
      (tryO (moreL (widthsL a) (widthsL b)) tol (widthsL a).length k ps = none → r = (.tuple [.own 1 [], .bool false], []) ∨ r = (.tuple [.list 1 (ps.map fun n => iv n), .bool false], [])) := by
  have hq := pairOk (ts := []) p0
  have hn := hq.n200
  intro k
  induction k with
  | zero =>
    intro ps _ hu
    have hlen := up_len (Nat.zero_le _) hu
    have hM := refMatch_ok a b ps tol (by omega) p0 h0 hu
    rw [try_zero]
    generalize matchGo (moreL (widthsL a) (widthsL b)) tol 0 ps = v at *
    refine ⟨(.tuple [.list 1 (ps.map fun n => iv n), .bool v], []), ?_, fun l hl => ?_, fun hl => ?_⟩
    · refine lim_by (fn := a75) (k := 5) (res := [.tmp 10, .tmp 11]) rfl rfl rfl (by simp -implicitDefEqProofs (maxSteps := 2000000) (disch := first | exact tt_rfl rfl | omega | (simp only [go_sem] <;> omega) | fail) only [go_sem]) ?_
      simp -implicitDefEqProofs (maxSteps := 2000000) (disch := first | exact tt_rfl rfl | omega | (simp only [go_sem] <;> omega) | fail) only [go_sem]
      repeat (first | apply Wp.seqA | apply Wp.skipS | apply Wp.blockS | ((first | apply Wp.regS | apply Wp.condV | apply Wp.reg | apply Wp.condW | apply fin_ret); simp -implicitDefEqProofs (maxSteps := 2000000) (disch := first | exact tt_rfl rfl | omega | (simp only [go_sem] <;> omega) | fail) only [go_sem, hM] <;> try with_reducible rfl) | apply Wp.block | apply Wp.exitS | apply Wp.retS | apply Wp.exit | apply Wp.ret | apply Wp.skip)
    · cases v
      · cases hl
      · cases hl; rfl
    · cases v
      · exact .inr rfl
      · cases hl
  | succ k ih =>
    intro ps hk hu
    have hlen := up_len (Nat.zero_le _) hu
    have ih := fun ps hu => ih ps (by omega) hu
    have hp := Picks_ok a (checkL_zero hq.ca).1 (checkL_zero hq.ca).2.1
    rw [← widths_length (checkL_zero hq.ca).2.1] at hp
    have hlast := last_le (Nat.zero_le _) hu
    have htn := fun h => (try_none (m := moreL (widthsL a) (widthsL b)) (tol := tol) (n := (widthsL a).length) (k := k) (ps := ps)).2 h
    have hts := fun l t h1 h2 h3 h4 => try_some (m := moreL (widthsL a) (widthsL b)) (tol := tol) (n := (widthsL a).length) (k := k) (ps := ps) (l := l) (t := t) h1 h2 h3 h4
    have hsn := fun t h1 h2 => up_snoc (t := t) hu h1 h2
    have hlg := last_get (ps := ps) (f := 0)
    clear hq
    generalize moreL (widthsL a) (widthsL b) = m at *
    generalize (widthsL a).length = n at *
    generalize hla : lastOf 0 ps = la at *
    refine lim_ex (fn := a75) (k := 5) (res := [.tmp 10, .tmp 11]) rfl rfl rfl (by simp -implicitDefEqProofs (maxSteps := 2000000) (disch := first | exact tt_rfl rfl | omega | (simp only [go_sem] <;> omega) | fail) only [go_sem]) ?_
    simp -implicitDefEqProofs (maxSteps := 2000000) (disch := first | exact tt_rfl rfl | omega | (simp only [go_sem] <;> omega) | fail) only [go_sem]
    have hkk : ¬ ((k + 1 : Nat) : Int) = 0 := by omega
    have hk1 : ((k + 1 : Nat) : Int) - 1 = k := by omega
    have hfirst : 0 < ps.length → ps[ps.length - 1]? = some (la : Int) := by
      intro h
      have h1 := hlg h
      have h2 : ps[ps.length - 1]? = some (atI ps (ps.length - 1)) := atI_eq (by omega)
      rw [h2]
      have hm : atI ps (ps.length - 1) ∈ ps := List.mem_of_getElem? h2
      have := up_all hu _ hm
      congr 1
      omega
    have hpn : ps.length ≤ n := by omega
    clear hlg
    by_cases c : 0 < ps.length
    case' pos =>
      have hf := hfirst c
      repeat (first | apply Wp.seqA | apply Wp.skipS | apply Wp.blockS | ((first | apply Wp.regS | apply Wp.condV | apply Wp.reg | apply Wp.condW | apply fin_ret); simp -implicitDefEqProofs (maxSteps := 2000000) (disch := first | exact tt_rfl rfl | omega | (simp only [go_sem] <;> omega) | fail) only [go_sem, hkk, show (0 : Int) < ps.length by omega, show ((ps.length : Int) - 1).toNat = ps.length - 1 by omega, List.getElem?_map, hf, Option.map_some] <;> try with_reducible rfl) | apply Wp.block | apply Wp.exitS | apply Wp.retS | apply Wp.exit | apply Wp.ret | apply Wp.skip)
    case' neg =>
      have hf : la = 0 := by
        have : ps = [] := List.length_eq_zero_iff.1 (by omega)
        rw [← hla, this]; rfl
      repeat (first | apply Wp.seqA | apply Wp.skipS | apply Wp.blockS | ((first | apply Wp.regS | apply Wp.condV | apply Wp.reg | apply Wp.condW | apply fin_ret); simp -implicitDefEqProofs (maxSteps := 2000000) (disch := first | exact tt_rfl rfl | omega | (simp only [go_sem] <;> omega) | fail) only [go_sem, hkk, show ¬ (0 : Int) < ps.length by omega] <;> try with_reducible rfl) | apply Wp.block | apply Wp.exitS | apply Wp.retS | apply Wp.exit | apply Wp.ret | apply Wp.skip)
    all_goals
      apply Wp.loopF (n - la) (fun i => ⟨[(0, .list 3 (a.map Part.av)), (1, .list 3 (b.map Part.av)), (2, iv tol), (3, .list 1 (ps.map fun n => iv n)), (4, iv (k + 1 : Nat)), (13, iv (la + 1 + i : Nat))], [], [], 1000000⟩)
        (fun i => ∀ t, la < t → t < la + 1 + i → tryO m tol n k (ps ++ [(t : Int)]) = none)
      · simp -implicitDefEqProofs (maxSteps := 2000000) (disch := first | exact tt_rfl rfl | omega | (simp only [go_sem] <;> omega) | fail) only [go_sem, norm_eq, Ok.some]
        simp [hf]
      · intro t h1 h2; omega
      intro i hi hno
      by_cases hin : i < n - la
      · obtain ⟨r, hr, hr1, hr2⟩ := ih (ps ++ [((la + 1 + i : Nat) : Int)]) (hsn (la + 1 + i) (by omega) (by omega))
        have hlt : ((la + 1 + i : Nat) : Int) ≤ n := by omega
        have e1 : (ps.map fun n => iv n) ++ [iv ((la + 1 + i : Nat) : Int)] = (ps ++ [((la + 1 + i : Nat) : Int)]).map fun n => iv n := by simp
        cases ht : tryO m tol n k (ps ++ [((la + 1 + i : Nat) : Int)]) with
        | some l =>
          obtain rfl := hr1 l ht
          have hl := hts l (la + 1 + i) (by omega) (by omega) ht fun t' h1 h2 => hno t' h1 h2
          clear ih hr1 hr2 htn hts hsn hno
          repeat (first | apply Wp.seqA | apply Wp.skipS | apply Wp.blockS | ((first | apply Wp.regS | apply Wp.condV | apply Wp.reg | apply Wp.condW | apply fin_ret); simp -implicitDefEqProofs (maxSteps := 2000000) (disch := first | exact tt_rfl rfl | omega | (simp only [go_sem] <;> omega) | fail) only [go_sem, hp, hlt, e1, hr, hk1] <;> try with_reducible rfl) | apply Wp.block | apply Wp.exitS | apply Wp.retS | apply Wp.exit | apply Wp.ret | apply Wp.skip)
          refine finp_ret (r := (.tuple [.list 1 (l.map fun n => iv n), .bool true], [])) ?_ ⟨fun l' hl' => ?_, fun hn => ?_⟩
          · simp -implicitDefEqProofs (maxSteps := 2000000) (disch := first | exact tt_rfl rfl | omega | (simp only [go_sem] <;> omega) | fail) only [go_sem]
          · rw [hl] at hl'; cases hl'; rfl
          · rw [hl] at hn; cases hn
        | none =>
          have hno' : ∀ t, la < t → t < la + 1 + (i + 1) → tryO m tol n k (ps ++ [(t : Int)]) = none := by
            intro t h1 h2
            by_cases e : t = la + 1 + i
            · subst e; exact ht
            · exact hno t h1 (by omega)
          rcases hr2 ht with rfl | rfl
          all_goals
            clear ih hr1 hr2 htn hts hsn hno
            repeat (first | apply Wp.seqA | apply Wp.skipS | apply Wp.blockS | ((first | apply Wp.regS | apply Wp.condV | apply Wp.reg | apply Wp.condW | apply fin_ret); simp -implicitDefEqProofs (maxSteps := 2000000) (disch := first | exact tt_rfl rfl | omega | (simp only [go_sem] <;> omega) | fail) only [go_sem, hp, hlt, e1, hr, hk1] <;> try with_reducible rfl) | apply Wp.block | apply Wp.exitS | apply Wp.retS | apply Wp.exit | apply Wp.ret | apply Wp.skip)
            apply round_next
            · simp -implicitDefEqProofs (maxSteps := 2000000) (disch := first | exact tt_rfl rfl | omega | (simp only [go_sem] <;> omega) | fail) only [go_sem, norm_eq, Ok.some]; with_reducible rfl
            refine ⟨hin, by simp; omega, hno'⟩
      · obtain rfl : i = n - la := by omega
        have hlt : ¬ ((la + 1 + (n - la) : Nat) : Int) ≤ n := by omega
        have hnn := htn fun t h1 h2 => hno t h1 (by omega)
        clear ih htn hts hsn hno
        repeat (first | apply Wp.seqA | apply Wp.skipS | apply Wp.blockS | ((first | apply Wp.regS | apply Wp.condV | apply Wp.reg | apply Wp.condW | apply fin_ret); simp -implicitDefEqProofs (maxSteps := 2000000) (disch := first | exact tt_rfl rfl | omega | (simp only [go_sem] <;> omega) | fail) only [go_sem, hp, hlt] <;> try with_reducible rfl) | apply Wp.block | apply Wp.exitS | apply Wp.retS | apply Wp.exit | apply Wp.ret | apply Wp.skip)
        refine finp_ret (r := (.tuple [.own 1 [], .bool false], [])) ?_ ⟨fun l' hl' => ?_, fun hn => .inl rfl⟩
        · simp -implicitDefEqProofs (maxSteps := 2000000) (disch := first | exact tt_rfl rfl | omega | (simp only [go_sem] <;> omega) | fail) only [go_sem]
        · rw [hnn] at hl'; cases hl'

/-- the fewest marks -/
def marksO (m : List Span) (tol : Int) (n : Nat) : Option (List Int) := (List.range (n + 1)).findSome? fun k => extL m tol n k 0
theorem try_nil {m : List Span} {tol : Int} {n k : Nat} : tryO m tol n k [] = extL m tol n k 0 := by
  unfold tryO
  simp [chainB, lastOf]
theorem marks_some {m : List Span} {tol : Int} {n k : Nat} {l : List Int} (hk : k ≤ n) (h : extL m tol n k 0 = some l) (h2 : ∀ k' < k, extL m tol n k' 0 = none) : marksO m tol n = some l := by
  unfold marksO
  rw [show n + 1 = k + (1 + (n - k)) by omega, List.range_add, List.findSome?_append]
  have : (List.range k).findSome? (fun k => extL m tol n k 0) = none := by
    rw [List.findSome?_eq_none_iff]
    intro x hx; exact h2 x (List.mem_range.1 hx)
  rw [this, Nat.add_comm 1, List.range_succ_eq_map]
  simp [h]
theorem marks_none {m : List Span} {tol : Int} {n : Nat} (h : ∀ k, extL m tol n k 0 = none) : marksO m tol n = none := by
  unfold marksO
  rw [List.findSome?_eq_none_iff]
  intro x _; exact h x

theorem refMarks_ok (a b : List Part) (tol : Int) (p0 : (pairL a b).e = 0) (h0 : 0 ≤ tol) :
    lim F 35 [.list 3 (a.map Part.av), .list 3 (b.map Part.av), iv tol] = some (match marksO (moreL (widthsL a) (widthsL b)) tol (widthsL a).length with
      | some l => .tuple [.list 1 (l.map fun n => iv n), .bool true]
      | none => .tuple [.own 1 [], .bool false], []) := by
  have hq := pairOk (ts := []) p0
  have hn := hq.n200
  have hT := fun k h => refTry_ok a b tol p0 h0 k [] h trivial
  have hp := Picks_ok a (checkL_zero hq.ca).1 (checkL_zero hq.ca).2.1
  rw [← widths_length (checkL_zero hq.ca).2.1] at hp
  have hbd := fun k l h => ext_bound (m := moreL (widthsL a) (widthsL b)) (tol := tol) (n := (widthsL a).length) (k := k) (f := 0) (l := l) (by omega) h
  have hms := fun k l h h1 h2 => marks_some (m := moreL (widthsL a) (widthsL b)) (tol := tol) (n := (widthsL a).length) (k := k) (l := l) h h1 h2
  have hmn := fun h => marks_none (m := moreL (widthsL a) (widthsL b)) (tol := tol) (n := (widthsL a).length) h
  simp only [try_nil, List.map_nil] at hT
  clear hq
  generalize moreL (widthsL a) (widthsL b) = m at *
  generalize (widthsL a).length = n at *
  refine lim_by (fn := a35) (k := 3) (res := [.tmp 6, .tmp 7]) rfl rfl rfl (by simp -implicitDefEqProofs (maxSteps := 2000000) (disch := first | exact tt_rfl rfl | omega | (simp only [go_sem] <;> omega) | fail) only [go_sem]) ?_
  simp -implicitDefEqProofs (maxSteps := 2000000) (disch := first | exact tt_rfl rfl | omega | (simp only [go_sem] <;> omega) | fail) only [go_sem]
  repeat (first | apply Wp.seqA | apply Wp.skipS | apply Wp.blockS | ((first | apply Wp.regS | apply Wp.condV | apply Wp.reg | apply Wp.condW | apply fin_ret); simp -implicitDefEqProofs (maxSteps := 2000000) (disch := first | exact tt_rfl rfl | omega | (simp only [go_sem] <;> omega) | fail) only [go_sem] <;> try with_reducible rfl) | apply Wp.block | apply Wp.exitS | apply Wp.retS | apply Wp.exit | apply Wp.ret | apply Wp.skip)
  apply Wp.loopF (n + 1) (fun i => ⟨[(0, .list 3 (a.map Part.av)), (1, .list 3 (b.map Part.av)), (2, iv tol), (8, iv i)], [], [], 1000000⟩) (fun i => ∀ k < i, extL m tol n k 0 = none)
  · simp -implicitDefEqProofs (maxSteps := 2000000) (disch := first | exact tt_rfl rfl | omega | (simp only [go_sem] <;> omega) | fail) only [go_sem, norm_eq, Ok.some]
  · intro k hk; omega
  intro i hi hno
  by_cases hin : i < n + 1
  · obtain ⟨r, hr, hr1, hr2⟩ := hT i (by omega)
    have hlt : (i : Int) ≤ n := by omega
    cases he : extL m tol n i 0 with
    | some l =>
      obtain rfl := hr1 l he
      rw [hms i l (by omega) he hno]
      clear hT hr1 hr2 hbd hms hmn hno
      repeat (first | apply Wp.seqA | apply Wp.skipS | apply Wp.blockS | ((first | apply Wp.regS | apply Wp.condV | apply Wp.reg | apply Wp.condW | apply fin_ret); simp -implicitDefEqProofs (maxSteps := 2000000) (disch := first | exact tt_rfl rfl | omega | (simp only [go_sem] <;> omega) | fail) only [go_sem, hp, hlt, hr] <;> try with_reducible rfl) | apply Wp.block | apply Wp.exitS | apply Wp.retS | apply Wp.exit | apply Wp.ret | apply Wp.skip)
    | none =>
      have hno' : ∀ k < i + 1, extL m tol n k 0 = none := by
        intro k hk
        by_cases e : k = i
        · subst e; exact he
        · exact hno k (by omega)
      rcases hr2 he with rfl | rfl
      all_goals
        clear hT hr1 hr2 hbd hms hmn hno
        repeat (first | apply Wp.seqA | apply Wp.skipS | apply Wp.blockS | ((first | apply Wp.regS | apply Wp.condV | apply Wp.reg | apply Wp.condW | apply fin_ret); simp -implicitDefEqProofs (maxSteps := 2000000) (disch := first | exact tt_rfl rfl | omega | (simp only [go_sem] <;> omega) | fail) only [go_sem, hp, hlt, hr] <;> try with_reducible rfl) | apply Wp.block | apply Wp.exitS | apply Wp.retS | apply Wp.exit | apply Wp.ret | apply Wp.skip)
        apply round_next
        · simp -implicitDefEqProofs (maxSteps := 2000000) (disch := first | exact tt_rfl rfl | omega | (simp only [go_sem] <;> omega) | fail) only [go_sem, norm_eq, Ok.some]; with_reducible rfl
        exact ⟨hin, by simp, hno'⟩
  · obtain rfl : i = n + 1 := by omega
    have hlt : ¬ ((n + 1 : Nat) : Int) ≤ n := by omega
    rw [hmn fun k => by
      cases he : extL m tol n k 0 with
      | none => rfl
      | some l =>
        have := hbd k l he
        rw [hno k (by omega)] at he; cases he]
    repeat (first | apply Wp.seqA | apply Wp.skipS | apply Wp.blockS | ((first | apply Wp.regS | apply Wp.condV | apply Wp.reg | apply Wp.condW | apply fin_ret); simp -implicitDefEqProofs (maxSteps := 2000000) (disch := first | exact tt_rfl rfl | omega | (simp only [go_sem] <;> omega) | fail) only [go_sem, hp, hlt] <;> try with_reducible rfl) | apply Wp.block | apply Wp.exitS | apply Wp.retS | apply Wp.exit | apply Wp.ret | apply Wp.skip)
end Go.Abs
