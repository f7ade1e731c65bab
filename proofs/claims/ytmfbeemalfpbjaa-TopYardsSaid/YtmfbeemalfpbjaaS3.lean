/-
  Chapter 7: contracts of two lengths: how much wider, stretches, ahead.
-/
import Derived.Test.YtmfbeemalfpbjaaS1
set_option linter.all false
namespace Go.Abs
set_option maxRecDepth 10000
set_option maxHeartbeats 1000000

/-- spans so small that nothing wraps -/
def Small (m : List Span) : Prop := m.length ≤ 200 ∧ ∀ s ∈ m, -20000 ≤ s.lo ∧ s.lo ≤ 20000 ∧ -20000 ≤ s.hi ∧ s.hi ≤ 20000
theorem Small.sub {m k : List Span} (h : Small m) (hs : k.Sublist m) : Small k := ⟨Nat.le_trans hs.length_le h.1, fun s hs' => h.2 s (hs.subset hs')⟩
theorem Small.pre {m : List Span} (h : Small m) : ∀ (i : Nat), i ≤ m.length → -20000 * i ≤ (pre m i).lo ∧ (pre m i).lo ≤ 20000 * i ∧ -20000 * i ≤ (pre m i).hi ∧ (pre m i).hi ≤ 20000 * i
  | 0, _ => by simp [Go.Abs.pre]
  | i + 1, hi => by
    have ih := h.pre i (by omega)
    have h1 := h.2 m[i] (List.getElem_mem (by omega))
    rw [pre_succ (by omega : i < m.length)]
    simp only [Span.add]
    omega
theorem Small.fits {m : List Span} (h : Small m) (i : Nat) (hi : i ≤ m.length) : (Go.Abs.pre m i).Fits := by
  have := h.pre i hi
  have := h.1
  unfold Span.Fits
  omega

theorem sums_small (m : List Span) (h : Small m) : lim F 25 [.list 2 (m.map Span.av)] = some (.own 2 ((sumsL m).map Span.av), []) :=
  sums_ok m (fun i hi => h.fits i hi) (by have := h.1; omega)

theorem end_ok (a b : AV) (m : List Span) (from' : Nat) (h : Small m) (hf : from' ≤ m.length) (ha : ∃ s l, a = .list s l) (hb : ∃ s l, b = .list s l) :
    lim F 47 [.agg [a, b, .list 2 (m.map Span.av)], iv from'] = some (.own 2 ((sumsL (m.drop from')).map Span.av), []) := by
  obtain ⟨s1, l1, rfl⟩ := ha
  obtain ⟨s2, l2, rfl⟩ := hb
  have hs := sums_small (m.drop from') (h.sub (List.drop_sublist _ _))
  have e : List.take (((m.length : Int) - from').toNat) (List.drop from' (m.map Span.av)) = (m.drop from').map Span.av := by
    rw [List.map_drop, List.take_of_length_le]; simp
  refine lim_by (fn := a47) (k := 2) (res := [.tmp 4]) rfl rfl rfl (by simp -implicitDefEqProofs (maxSteps := 2000000) (disch := first | exact tt_rfl rfl | omega | (simp only [go_sem] <;> omega) | fail) only [go_sem]) ?_
  simp -implicitDefEqProofs (maxSteps := 2000000) (disch := first | exact tt_rfl rfl | omega | (simp only [go_sem] <;> omega) | fail) only [go_sem]
  repeat (first | apply Wp.seqA | apply Wp.skipS | apply Wp.blockS | ((first | apply Wp.regS | apply Wp.condV | apply Wp.reg | apply Wp.condW | apply fin_ret); simp -implicitDefEqProofs (maxSteps := 2000000) (disch := first | exact tt_rfl rfl | omega | (simp only [go_sem] <;> omega) | fail) only [go_sem, hs, e] <;> try with_reducible rfl) | apply Wp.block | apply Wp.exitS | apply Wp.retS | apply Wp.exit | apply Wp.ret | apply Wp.skip)

/-- what is after an edge makes up for what is before it -/
def strE (m : List Span) (k : Nat) : Span := ⟨max (pre m k).lo (0 - ((pre m m.length).hi - (pre m k).hi)), min (pre m k).hi (0 - ((pre m m.length).lo - (pre m k).lo))⟩
def strL (m : List Span) : List Span := (List.range (m.length + 1)).map (strE m)
theorem map_range_set {α : Type} {n i : Nat} (f : Nat → α) (x : α) : ((List.range n).map f).set i x = (List.range n).map fun j => if j = i then x else f j := by
  apply List.ext_getElem (by simp)
  intro j h1 h2
  simp only [List.getElem_set, List.getElem_map, List.getElem_range]
  by_cases e : i = j
  · simp [e]
  · rw [if_neg e, if_neg (fun h => e h.symm)]
def Span.Has0 (s : Span) : Prop := s.lo ≤ 0 ∧ 0 ≤ s.hi
instance (s : Span) : Decidable s.Has0 := by unfold Span.Has0; infer_instance

theorem stretch_ok (a b : AV) (m : List Span) (p q : Nat) (h : Small m) (hp : p ≤ q) (hq : q ≤ m.length) (ha : ∃ s l, a = .list s l) (hb : ∃ s l, b = .list s l) :
    lim F 48 [.agg [a, b, .list 2 (m.map Span.av)], iv p, iv q] = some (.tuple [.own 2 ((strL ((m.drop p).take (q - p))).map Span.av), .bool (decide (pre ((m.drop p).take (q - p)) (q - p)).Has0)], []) := by
  obtain ⟨s1, l1, rfl⟩ := ha
  obtain ⟨s2, l2, rfl⟩ := hb
  have hsm := h.sub ((List.take_sublist (q - p) _).trans (List.drop_sublist p m))
  have e : List.take (((q : Int) - p).toNat) (List.drop p (m.map Span.av)) = ((m.drop p).take (q - p)).map Span.av := by
    rw [List.map_take, List.map_drop]; congr 1; omega
  have hlen : ((m.drop p).take (q - p)).length = q - p := by simp; omega
  generalize ((m.drop p).take (q - p)) = k at *
  rw [← hlen]
  have hs := sums_small k hsm
  have hl := hsm.1
  have hlast : (sumsL k)[k.length]? = some (pre k k.length) := by simp [sumsL]
  have hh := has_ok (pre k k.length).lo (pre k k.length).hi 0
  have hall := hsm.pre k.length (Nat.le_refl _)
  have hsl : (sumsL k).length = k.length + 1 := by simp [sumsL]
  refine lim_by (fn := a48) (k := 3) (res := [.tmp 6, .tmp 7]) rfl rfl rfl (by simp -implicitDefEqProofs (maxSteps := 2000000) (disch := first | exact tt_rfl rfl | omega | (simp only [go_sem] <;> omega) | fail) only [go_sem]) ?_
  simp -implicitDefEqProofs (maxSteps := 2000000) (disch := first | exact tt_rfl rfl | omega | (simp only [go_sem] <;> omega) | fail) only [go_sem]
  repeat (first | apply Wp.seqA | apply Wp.skipS | apply Wp.blockS | ((first | apply Wp.regS | apply Wp.condV | apply Wp.reg | apply Wp.condW | apply fin_ret); simp -implicitDefEqProofs (maxSteps := 2000000) (disch := first | exact tt_rfl rfl | omega | (simp only [go_sem] <;> omega) | fail) only [go_sem, hs, e, hsl, show ((((k.length + 1 : Nat) : Int)) - 1).toNat = k.length by omega, List.getElem?_map, hlast, Option.map_some, Span.av.eq_1] <;> try with_reducible rfl) | apply Wp.block | apply Wp.exitS | apply Wp.retS | apply Wp.exit | apply Wp.ret | apply Wp.skip)
  apply Wp.loopF (k.length + 1) (fun i => ⟨[(6, .slice 384 0 (k.length + 1)), (8, .ptr 512 0 0), (24, .slice 384 0 (k.length + 1)), (25, iv (k.length + 1 : Nat)), (26, iv i)],
    [(384, .arr 2 (((List.range (k.length + 1)).map fun j => if j < i then strE k j else pre k j).map Span.av)), (512, .box [iv (pre k k.length).lo, iv (pre k k.length).hi])], [], 10000000⟩) (fun _ => True)
  · simp -implicitDefEqProofs (maxSteps := 2000000) (disch := first | exact tt_rfl rfl | omega | (simp only [go_sem] <;> omega) | fail) only [go_sem, norm_eq, Ok.some]
    simp [sumsL]
  · trivial
  intro i hi _
  by_cases h : i < k.length + 1
  · have hi' := hsm.pre i (by omega)
    have hg : ((List.range (k.length + 1)).map fun j => if j < i then strE k j else pre k j)[i]? = some (pre k i) := by
      simp [h]
    have hm := minus_ok 0 0 ((pre k k.length).lo - (pre k i).lo) ((pre k k.length).hi - (pre k i).hi) (by unfold Span.Fits; simp only; omega)
    have hb := both_ok (pre k i).lo (pre k i).hi (0 - ((pre k k.length).hi - (pre k i).hi)) (0 - ((pre k k.length).lo - (pre k i).lo))
    repeat (first | apply Wp.seqA | apply Wp.skipS | apply Wp.blockS | ((first | apply Wp.regS | apply Wp.condV | apply Wp.reg | apply Wp.condW | apply fin_ret); simp -implicitDefEqProofs (maxSteps := 2000000) (disch := first | exact tt_rfl rfl | omega | (simp only [go_sem] <;> omega) | fail) only [go_sem, h, Int.ofNat_lt, List.getElem?_map, hg, Option.map_some, Span.av.eq_1, hm, hb] <;> try with_reducible rfl) | apply Wp.block | apply Wp.exitS | apply Wp.retS | apply Wp.exit | apply Wp.ret | apply Wp.skip)
    apply round_next
    · simp -implicitDefEqProofs (maxSteps := 2000000) (disch := first | exact tt_rfl rfl | omega | (simp only [go_sem] <;> omega) | fail) only [go_sem, norm_eq, Ok.some]; with_reducible rfl
    refine ⟨h, ?_, trivial⟩
    have e2 := map_range_set (n := k.length + 1) (i := i) (fun j => if j < i then strE k j else pre k j) (strE k i)
    have e3 : (AV.agg [AV.int .i64 (max (pre k i).lo (0 - ((pre k k.length).hi - (pre k i).hi))), AV.int .i64 (min (pre k i).hi (0 - ((pre k k.length).lo - (pre k i).lo)))]) = Span.av (strE k i) := rfl
    rw [e3, ← List.map_set, e2]
    simp only [Fr.mk.injEq, List.cons.injEq, Prod.mk.injEq, Row.arr.injEq, true_and, and_true, AV.int.injEq]
    refine ⟨by omega, congrArg _ (List.map_congr_left fun j hj => ?_)⟩
    by_cases h1 : j = i
    · subst h1; simp
    · by_cases h2 : j < i
      · simp [h1, h2, show j < i + 1 by omega]
      · simp [h1, h2, show ¬ j < i + 1 by omega]
  · obtain rfl : i = k.length + 1 := by omega
    repeat (first | apply Wp.seqA | apply Wp.skipS | apply Wp.blockS | ((first | apply Wp.regS | apply Wp.condV | apply Wp.reg | apply Wp.condW | apply fin_ret); simp -implicitDefEqProofs (maxSteps := 2000000) (disch := first | exact tt_rfl rfl | omega | (simp only [go_sem] <;> omega) | fail) only [go_sem, Int.lt_irrefl, hh] <;> try with_reducible rfl) | apply Wp.block | apply Wp.exitS | apply Wp.retS | apply Wp.exit | apply Wp.ret | apply Wp.skip)
    simp only [Option.some.injEq, Prod.mk.injEq, AV.tuple.injEq, List.cons.injEq, AV.own.injEq, true_and, and_true]
    refine ⟨congrArg _ (List.map_congr_left fun j hj => ?_), rfl⟩
    rw [if_pos (List.mem_range.1 hj)]

/-- picks from one edge to another one -/
def seg (m : List Span) (p q : Nat) : List Span := (m.drop p).take (q - p)
theorem seg_length {m : List Span} {p q : Nat} (hp : p ≤ q) (hq : q ≤ m.length) : (seg m p q).length = q - p := by simp [seg]; omega

/-- by how much the first length can be ahead, from an edge on: mark by mark -/
def aheadGo (m : List Span) (f : Nat) : List Int → Option (List Span)
  | [] => some (sumsL (m.drop f))
  | t :: ts => if (pre (seg m f t.toNat) (t.toNat - f)).Has0 then (aheadGo m t.toNat ts).map ((strL (seg m f t.toNat)).take (t.toNat - f) ++ ·) else none

/-- marks behind an edge, one behind the other -/
def Up (n : Nat) : Int → List Int → Prop
  | _, [] => True
  | f, t :: ts => f < t ∧ t ≤ n ∧ Up n t ts

theorem aheadGo_length {m : List Span} : ∀ {ts : List Int} {f : Nat} {l : List Span}, f ≤ m.length → Up m.length f ts → aheadGo m f ts = some l → l.length = m.length - f + 1
  | [], f, l, hf, _, h => by simp only [aheadGo, Option.some.injEq] at h; subst h; simp [sumsL]
  | t :: ts, f, l, hf, hu, h => by
    simp only [aheadGo] at h
    split at h
    · cases hx : aheadGo m t.toNat ts with
      | none => rw [hx] at h; cases h
      | some x =>
        rw [hx] at h
        simp only [Option.map_some, Option.some.injEq] at h
        obtain ⟨u1, u2, u3⟩ := hu
        have := aheadGo_length (by omega) (by rw [Int.toNat_of_nonneg (by omega)]; exact u3) hx
        subst h
        simp only [List.length_append, List.length_take, strL, List.length_map, List.length_range, seg_length (m := m) (p := f) (q := t.toNat) (by omega) (by omega), this]
        omega
    · cases h

theorem pairAhead_ok (a b : AV) (m : List Span) (ts : List Int) (h : Small m) (hu : Up m.length 0 ts) (ha : ∃ s l, a = .list s l) (hb : ∃ s l, b = .list s l) (hts : ts.length ≤ 1000) :
    lim F 57 [.agg [a, b, .list 2 (m.map Span.av)], .list 1 (ts.map fun n => iv n)] = some (.tuple [.own 2 (((aheadGo m 0 ts).getD []).map Span.av), .bool (aheadGo m 0 ts).isSome], []) := by
  obtain ⟨s1, l1, rfl⟩ := ha
  obtain ⟨s2, l2, rfl⟩ := hb
  have hml := h.1
  refine lim_by (fn := a57) (k := 2) (res := [.tmp 4, .tmp 5]) rfl rfl rfl (by simp -implicitDefEqProofs (maxSteps := 2000000) (disch := first | exact tt_rfl rfl | omega | (simp only [go_sem] <;> omega) | fail) only [go_sem]) ?_
  simp -implicitDefEqProofs (maxSteps := 2000000) (disch := first | exact tt_rfl rfl | omega | (simp only [go_sem] <;> omega) | fail) only [go_sem]
  repeat (first | apply Wp.seqA | apply Wp.skipS | apply Wp.blockS | ((first | apply Wp.regS | apply Wp.condV | apply Wp.reg | apply Wp.condW | apply fin_ret); simp -implicitDefEqProofs (maxSteps := 2000000) (disch := first | exact tt_rfl rfl | omega | (simp only [go_sem] <;> omega) | fail) only [go_sem] <;> try with_reducible rfl) | apply Wp.block | apply Wp.exitS | apply Wp.retS | apply Wp.exit | apply Wp.ret | apply Wp.skip)
  apply Wp.loopN ts.length (fun i fr => ∃ (acc : List Span) (f : Nat), fr = ⟨[(2, .ptr 128 0 0), (4, .slice 256 0 acc.length), (6, iv f), (11, .list 1 (ts.map fun n => iv n)), (12, iv ts.length), (13, iv i)],
    [(128, .box [.list s1 l1, .list s2 l2, .list 2 (m.map Span.av)]), (256, .arr 2 (acc.map Span.av))], [], 10000000⟩ ∧ f ≤ m.length ∧ acc.length = f ∧ Up m.length f (ts.drop i) ∧ aheadGo m 0 ts = (aheadGo m f (ts.drop i)).map (acc ++ ·))
  · simp -implicitDefEqProofs (maxSteps := 2000000) (disch := first | exact tt_rfl rfl | omega | (simp only [go_sem] <;> omega) | fail) only [go_sem, norm_eq, Ok.some]
    exact ⟨[], 0, rfl, by omega, rfl, hu, by simp⟩
  rintro i fr hi ⟨acc, f, rfl, hf, hacc, hup, hgo⟩
  by_cases h : i < ts.length
  · rw [List.drop_eq_getElem_cons h] at hup hgo
    obtain ⟨u1, u2, u3⟩ := hup
    have hst := stretch_ok (.list s1 l1) (.list s2 l2) m f ts[i].toNat ‹_› (by omega) (by omega) ⟨_, _, rfl⟩ ⟨_, _, rfl⟩
    rw [Int.toNat_of_nonneg (by omega : 0 ≤ ts[i])] at hst
    have hsl : (strL (seg m f ts[i].toNat)).length = ts[i].toNat - f + 1 := by simp [strL, seg_length (m := m) (p := f) (q := ts[i].toNat) (by omega) (by omega)]
    change lim F 48 _ = some (.tuple [.own 2 ((strL (seg m f ts[i].toNat)).map Span.av), .bool (decide (pre (seg m f ts[i].toNat) (ts[i].toNat - f)).Has0)], []) at hst
    by_cases hz : (pre (seg m f ts[i].toNat) (ts[i].toNat - f)).Has0
    · have hlt : acc.length + (ts[i].toNat - f) ≤ 200 := by omega
      repeat (first | apply Wp.seqA | apply Wp.skipS | apply Wp.blockS | ((first | apply Wp.regS | apply Wp.condV | apply Wp.reg | apply Wp.condW | apply fin_ret); simp -implicitDefEqProofs (maxSteps := 2000000) (disch := first | exact tt_rfl rfl | omega | (simp only [go_sem] <;> omega) | fail) only [go_sem, h, Int.ofNat_lt, List.getElem?_map, List.getElem?_eq_getElem h, Option.map_some, hst, hz, hsl, show ((((ts[i].toNat - f + 1 : Nat) : Int)) - 1 - 0).toNat = ts[i].toNat - f by omega] <;> try with_reducible rfl) | apply Wp.block | apply Wp.exitS | apply Wp.retS | apply Wp.exit | apply Wp.ret | apply Wp.skip)
      apply round_next
      · simp -implicitDefEqProofs (maxSteps := 2000000) (disch := first | exact tt_rfl rfl | omega | (simp only [go_sem] <;> omega) | fail) only [go_sem, norm_eq, Ok.some]; with_reducible rfl
      refine ⟨h, acc ++ (strL (seg m f ts[i].toNat)).take (ts[i].toNat - f), ts[i].toNat, ?_, by omega, ?_, ?_, ?_⟩
      · simp [Int.toNat_of_nonneg (by omega : 0 ≤ ts[i]), List.map_take]; try omega
      · simp [hsl]; omega
      · rw [Int.toNat_of_nonneg (by omega : 0 ≤ ts[i])]; exact u3
      · rw [hgo]
        simp only [aheadGo, hz, if_true, Option.map_map]
        congr 1
        funext x; simp
    · repeat (first | apply Wp.seqA | apply Wp.skipS | apply Wp.blockS | ((first | apply Wp.regS | apply Wp.condV | apply Wp.reg | apply Wp.condW | apply fin_ret); simp -implicitDefEqProofs (maxSteps := 2000000) (disch := first | exact tt_rfl rfl | omega | (simp only [go_sem] <;> omega) | fail) only [go_sem, h, Int.ofNat_lt, List.getElem?_map, List.getElem?_eq_getElem h, Option.map_some, hst, hz] <;> try with_reducible rfl) | apply Wp.block | apply Wp.exitS | apply Wp.retS | apply Wp.exit | apply Wp.ret | apply Wp.skip)
      rw [hgo]
      simp [aheadGo, hz]
  · obtain rfl : i = ts.length := by omega
    have he := end_ok (.list s1 l1) (.list s2 l2) m f ‹_› hf ⟨_, _, rfl⟩ ⟨_, _, rfl⟩
    have hel : (sumsL (m.drop f)).length = m.length - f + 1 := by simp [sumsL]
    repeat (first | apply Wp.seqA | apply Wp.skipS | apply Wp.blockS | ((first | apply Wp.regS | apply Wp.condV | apply Wp.reg | apply Wp.condW | apply fin_ret); simp -implicitDefEqProofs (maxSteps := 2000000) (disch := first | exact tt_rfl rfl | omega | (simp only [go_sem] <;> omega) | fail) only [go_sem, Int.lt_irrefl, he, hel] <;> try with_reducible rfl) | apply Wp.block | apply Wp.exitS | apply Wp.retS | apply Wp.exit | apply Wp.ret | apply Wp.skip)
    rw [hgo]
    simp [aheadGo, List.drop_length]
    rw [List.take_of_length_le (by simp [hel])]
end Go.Abs

