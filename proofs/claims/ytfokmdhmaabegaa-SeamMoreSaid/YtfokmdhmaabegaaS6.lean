/-
  Chapter 7: contracts of the reference's Places, Pair, Ahead, Open.
-/
import Derived.Test.YtfokmdhmaabegaaS5
set_option linter.all false
namespace Go.Abs
set_option maxRecDepth 10000
set_option maxHeartbeats 4000000

def at' (l : List Span) (i : Nat) : Span := l[i]?.getD ⟨0, 0⟩
theorem at'_eq {l : List Span} {i : Nat} (h : i < l.length) : l[i]? = some (at' l i) := by simp [at', h]
theorem at'_get {l : List Span} {i : Nat} (h : i < l.length) : at' l i = l[i] := by simp [at', h]

theorem refPair_ok (a b : List Part) : lim F 32 [.list 3 (a.map Part.av), .list 3 (b.map Part.av)] = some (iv (pairL a b).e, []) := by
  have ca := refCheck_ok a
  have cb := refCheck_ok b
  by_cases h1 : checkL a = 0
  · rw [h1] at ca
    by_cases h2 : checkL b = 0
    · rw [h2] at cb
      obtain ⟨a1, a2, a3⟩ := checkL_zero h1
      obtain ⟨b1, b2, b3⟩ := checkL_zero h2
      have pa := Picks_ok a a1 a2
      have pb := Picks_ok b b1 b2
      by_cases h3 : picksL a = picksL b
      · rw [h3] at pa
        refine lim_by (fn := a32) (k := 2) (res := [.tmp 4]) rfl rfl rfl (by simp -implicitDefEqProofs (maxSteps := 2000000) (disch := first | exact tt_rfl rfl | omega | (simp only [go_sem] <;> omega) | fail) only [go_sem]) ?_
        simp -implicitDefEqProofs (maxSteps := 2000000) (disch := first | exact tt_rfl rfl | omega | (simp only [go_sem] <;> omega) | fail) only [go_sem]
        repeat (first | apply Wp.seqA | apply Wp.skipS | apply Wp.blockS | ((first | apply Wp.regS | apply Wp.condV | apply Wp.reg | apply Wp.condW | apply fin_ret); simp -implicitDefEqProofs (maxSteps := 2000000) (disch := first | exact tt_rfl rfl | omega | (simp only [go_sem] <;> omega) | fail) only [go_sem, ca, cb, pa, pb] <;> try with_reducible rfl) | apply Wp.block | apply Wp.exitS | apply Wp.retS | apply Wp.exit | apply Wp.ret | apply Wp.skip)
        simp [pairL, h1, h2, h3]
      · refine lim_by (fn := a32) (k := 2) (res := [.tmp 4]) rfl rfl rfl (by simp -implicitDefEqProofs (maxSteps := 2000000) (disch := first | exact tt_rfl rfl | omega | (simp only [go_sem] <;> omega) | fail) only [go_sem]) ?_
        simp -implicitDefEqProofs (maxSteps := 2000000) (disch := first | exact tt_rfl rfl | omega | (simp only [go_sem] <;> omega) | fail) only [go_sem]
        repeat (first | apply Wp.seqA | apply Wp.skipS | apply Wp.blockS | ((first | apply Wp.regS | apply Wp.condV | apply Wp.reg | apply Wp.condW | apply fin_ret); simp -implicitDefEqProofs (maxSteps := 2000000) (disch := first | exact tt_rfl rfl | omega | (simp only [go_sem] <;> omega) | fail) only [go_sem, ca, cb, pa, pb, h3] <;> try with_reducible rfl) | apply Wp.block | apply Wp.exitS | apply Wp.retS | apply Wp.exit | apply Wp.ret | apply Wp.skip)
        simp [pairL, h1, h2, h3]
    · refine lim_by (fn := a32) (k := 2) (res := [.tmp 4]) rfl rfl rfl (by simp -implicitDefEqProofs (maxSteps := 2000000) (disch := first | exact tt_rfl rfl | omega | (simp only [go_sem] <;> omega) | fail) only [go_sem]) ?_
      simp -implicitDefEqProofs (maxSteps := 2000000) (disch := first | exact tt_rfl rfl | omega | (simp only [go_sem] <;> omega) | fail) only [go_sem]
      repeat (first | apply Wp.seqA | apply Wp.skipS | apply Wp.blockS | ((first | apply Wp.regS | apply Wp.condV | apply Wp.reg | apply Wp.condW | apply fin_ret); simp -implicitDefEqProofs (maxSteps := 2000000) (disch := first | exact tt_rfl rfl | omega | (simp only [go_sem] <;> omega) | fail) only [go_sem, ca, cb, h2] <;> try with_reducible rfl) | apply Wp.block | apply Wp.exitS | apply Wp.retS | apply Wp.exit | apply Wp.ret | apply Wp.skip)
      simp [pairL, h1, h2]
  · refine lim_by (fn := a32) (k := 2) (res := [.tmp 4]) rfl rfl rfl (by simp -implicitDefEqProofs (maxSteps := 2000000) (disch := first | exact tt_rfl rfl | omega | (simp only [go_sem] <;> omega) | fail) only [go_sem]) ?_
    simp -implicitDefEqProofs (maxSteps := 2000000) (disch := first | exact tt_rfl rfl | omega | (simp only [go_sem] <;> omega) | fail) only [go_sem]
    repeat (first | apply Wp.seqA | apply Wp.skipS | apply Wp.blockS | ((first | apply Wp.regS | apply Wp.condV | apply Wp.reg | apply Wp.condW | apply fin_ret); simp -implicitDefEqProofs (maxSteps := 2000000) (disch := first | exact tt_rfl rfl | omega | (simp only [go_sem] <;> omega) | fail) only [go_sem, ca, h1] <;> try with_reducible rfl) | apply Wp.block | apply Wp.exitS | apply Wp.retS | apply Wp.exit | apply Wp.ret | apply Wp.skip)
    simp [pairL, h1]

theorem refPlaces_ok (l : List Part) (hc : checkL l = 0) : lim F 24 [.list 3 (l.map Part.av)] = some (.own 2 ((sumsL (widthsL l)).map Span.av), []) := by
  obtain ⟨a1, a2, a3⟩ := checkL_zero hc
  have hp := Picks_ok l a1 a2
  have hsm := widths_small hc
  have hn := widths_length a2
  have hW := Width_ok l a1 a2
  rw [← hn] at hp hW
  generalize widthsL l = w at *
  clear hc a1 a2 a3 hn
  have hl := hsm.1
  refine lim_by (fn := a24) (k := 1) (res := [.tmp 2]) rfl rfl rfl (by simp -implicitDefEqProofs (maxSteps := 2000000) (disch := first | exact tt_rfl rfl | omega | (simp only [go_sem] <;> omega) | fail) only [go_sem]) ?_
  simp -implicitDefEqProofs (maxSteps := 2000000) (disch := first | exact tt_rfl rfl | omega | (simp only [go_sem] <;> omega) | fail) only [go_sem]
  repeat (first | apply Wp.seqA | apply Wp.skipS | apply Wp.blockS | ((first | apply Wp.regS | apply Wp.condV | apply Wp.reg | apply Wp.condW | apply fin_ret); simp -implicitDefEqProofs (maxSteps := 2000000) (disch := first | exact tt_rfl rfl | omega | (simp only [go_sem] <;> omega) | fail) only [go_sem] <;> try with_reducible rfl) | apply Wp.block | apply Wp.exitS | apply Wp.retS | apply Wp.exit | apply Wp.ret | apply Wp.skip)
  apply Wp.loopF w.length (fun i => ⟨[(0, .list 3 (l.map Part.av)), (3, .ptr 192 0 0), (4, .slice 256 0 (i + 1)), (5, iv i)],
    [(192, .box [iv (pre w i).lo, iv (pre w i).hi]), (256, .arr 2 (((List.range (i + 1)).map (pre w)).map Span.av))], [], 1000000⟩) (fun _ => True)
  · simp -implicitDefEqProofs (maxSteps := 2000000) (disch := first | exact tt_rfl rfl | omega | (simp only [go_sem] <;> omega) | fail) only [go_sem, norm_eq, Ok.some]
    simp [pre, Span.av]
  · trivial
  intro i hi _
  by_cases h : i < w.length
  · have hw := hW i (by omega) w[i] (by simp [h])
    have q := hsm.pre i (by omega)
    have q2 := hsm.2 w[i] (List.getElem_mem h)
    clear hW
    repeat (first | apply Wp.seqA | apply Wp.skipS | apply Wp.blockS | ((first | apply Wp.regS | apply Wp.condV | apply Wp.reg | apply Wp.condW | apply fin_ret); simp -implicitDefEqProofs (maxSteps := 2000000) (disch := first | exact tt_rfl rfl | omega | (simp only [go_sem] <;> omega) | fail) only [go_sem, h, Int.ofNat_lt, hp, hw] <;> try with_reducible rfl) | apply Wp.block | apply Wp.exitS | apply Wp.retS | apply Wp.exit | apply Wp.ret | apply Wp.skip)
    apply round_next
    · simp -implicitDefEqProofs (maxSteps := 2000000) (disch := first | exact tt_rfl rfl | omega | (simp only [go_sem] <;> omega) | fail) only [go_sem, norm_eq, Ok.some]; with_reducible rfl
    refine ⟨h, ?_, trivial⟩
    rw [List.range_succ (n := i + 1)]
    simp [pre_succ h, Span.add, Span.av]
  · obtain rfl : i = w.length := by omega
    repeat (first | apply Wp.seqA | apply Wp.skipS | apply Wp.blockS | ((first | apply Wp.regS | apply Wp.condV | apply Wp.reg | apply Wp.condW | apply fin_ret); simp -implicitDefEqProofs (maxSteps := 2000000) (disch := first | exact tt_rfl rfl | omega | (simp only [go_sem] <;> omega) | fail) only [go_sem, Int.lt_irrefl, hp] <;> try with_reducible rfl) | apply Wp.block | apply Wp.exitS | apply Wp.retS | apply Wp.exit | apply Wp.ret | apply Wp.skip)
    rfl

/-! ### Ahead, from both ends -/

def big : Span := ⟨-1099511627776, 1099511627776⟩
/-- before marks are looked at -/
def foR (wa wb : List Span) (s : Span) (i : Nat) : Span := ⟨s.lo + (at' wa i).lo - (at' wb i).hi, s.hi + (at' wa i).hi - (at' wb i).lo⟩
def fo (wa wb : List Span) (ts : List Int) : Nat → Span
  | 0 => ⟨0, 0⟩
  | i + 1 => if ((i : Int) + 1) ∈ ts then ⟨0, 0⟩ else foR wa wb (fo wa wb ts i) i
def baD (wa wb : List Span) (ts : List Int) (n : Nat) : Nat → Span
  | 0 => if (n : Int) = 0 ∨ (n : Int) ∈ ts then ⟨0, 0⟩ else big
  | d + 1 => if (n : Int) - (d + 1 : Nat) = 0 ∨ (n : Int) - (d + 1 : Nat) ∈ ts then ⟨0, 0⟩ else
      ⟨(baD wa wb ts n d).lo - (at' wa (n - (d + 1))).hi + (at' wb (n - (d + 1))).lo, (baD wa wb ts n d).hi - (at' wa (n - (d + 1))).lo + (at' wb (n - (d + 1))).hi⟩
def outR (wa wb : List Span) (ts : List Int) (n j : Nat) : Span :=
  ⟨max (fo wa wb ts j).lo (baD wa wb ts n (n - j)).lo, min (fo wa wb ts j).hi (baD wa wb ts n (n - j)).hi⟩
abbrev BadAt (wa wb : List Span) (ts : List Int) (i : Nat) : Prop := ((i : Int) + 1) ∈ ts ∧ ¬ (foR wa wb (fo wa wb ts i) i).Has0

def Wide (w : List Span) : Prop := ∀ i, 0 ≤ (at' w i).lo ∧ (at' w i).lo ≤ 10000 ∧ 0 ≤ (at' w i).hi ∧ (at' w i).hi ≤ 10000
theorem wide_of {l : List Part} (hok : ∀ p ∈ l, p.Ok) : Wide (widthsL l) := by
  intro i
  by_cases h : i < (widthsL l).length
  · rw [at'_get h]; have := widths_mem hok _ (List.getElem_mem h); omega
  · simp [at', List.getElem?_eq_none (Nat.le_of_not_lt h)]
theorem fo_bound {wa wb : List Span} {ts : List Int} (ha : Wide wa) (hb : Wide wb) : ∀ i : Nat, -10000 * (i : Int) ≤ (fo wa wb ts i).lo ∧ (fo wa wb ts i).lo ≤ 10000 * i ∧ -10000 * (i : Int) ≤ (fo wa wb ts i).hi ∧ (fo wa wb ts i).hi ≤ 10000 * i
  | 0 => by simp [fo]
  | i + 1 => by
    have ih := fo_bound (ts := ts) ha hb i
    have := ha i
    have := hb i
    simp only [fo, foR]
    split <;> simp only [] <;> omega
theorem ba_bound {wa wb : List Span} {ts : List Int} {n : Nat} (ha : Wide wa) (hb : Wide wb) : ∀ d : Nat, -1099511627776 - 10000 * (d : Int) ≤ (baD wa wb ts n d).lo ∧ (baD wa wb ts n d).lo ≤ 1099511627776 + 10000 * d ∧ -1099511627776 - 10000 * (d : Int) ≤ (baD wa wb ts n d).hi ∧ (baD wa wb ts n d).hi ≤ 1099511627776 + 10000 * d
  | 0 => by simp only [baD, big]; split <;> simp
  | d + 1 => by
    have ih := ba_bound (ts := ts) (n := n) ha hb d
    have := ha (n - (d + 1))
    have := hb (n - (d + 1))
    simp only [baD]
    split <;> simp only [] <;> omega

theorem set_map_av {n i : Nat} (f : Nat → Span) (x : Span) : (((List.range n).map f).map Span.av).set i (Span.av x) = ((List.range n).map fun j => if j = i then x else f j).map Span.av := by
  rw [← List.map_set, map_range_set]

theorem refAhead_ok (a b : List Part) (ts : List Int) (hts : ts.length ≤ 1000) (ha : checkL a = 0) (hb : checkL b = 0) (hab : picksL a = picksL b) (res : AV)
    (hgood : (∀ i, i < (widthsL a).length → ¬ BadAt (widthsL a) (widthsL b) ts i) → res = .tuple [.own 2 (((List.range ((widthsL a).length + 1)).map (outR (widthsL a) (widthsL b) ts (widthsL a).length)).map Span.av), .bool true])
    (hbad : ∀ i, i < (widthsL a).length → BadAt (widthsL a) (widthsL b) ts i → res = .tuple [.own 2 [], .bool false]) :
    lim F 26 [.list 3 (a.map Part.av), .list 3 (b.map Part.av), .list 1 (ts.map fun n => iv n)] = some (res, []) := by
  obtain ⟨a1, a2, a3⟩ := checkL_zero ha
  obtain ⟨b1, b2, b3⟩ := checkL_zero hb
  have hp := Picks_ok a a1 a2
  have na := widths_length a2
  have nb := widths_length b2
  have hWa := Width_ok a a1 a2
  have hWb := Width_ok b b1 b2
  have wda := wide_of a2
  have wdb := wide_of b2
  have hlen : (widthsL b).length = (widthsL a).length := by omega
  have hn : (widthsL a).length ≤ 200 := by omega
  rw [← na] at hp hWa
  rw [← nb] at hWb
  have hM := fun n => Marked_ok ts n (by omega)
  generalize widthsL a = wa at *
  generalize widthsL b = wb at *
  generalize hnn : wa.length = n at *
  clear a1 a2 a3 b1 b2 b3 na nb ha hb hab
  refine lim_by (fn := a26) (k := 3) (res := [.tmp 6, .tmp 7]) rfl rfl rfl (by simp -implicitDefEqProofs (maxSteps := 2000000) (disch := first | exact tt_rfl rfl | omega | (simp only [go_sem] <;> omega) | fail) only [go_sem]) ?_
  simp -implicitDefEqProofs (maxSteps := 2000000) (disch := first | exact tt_rfl rfl | omega | (simp only [go_sem] <;> omega) | fail) only [go_sem]
  repeat (first | apply Wp.seqA | apply Wp.skipS | apply Wp.blockS | ((first | apply Wp.regS | apply Wp.condV | apply Wp.reg | apply Wp.condW | apply fin_ret); simp -implicitDefEqProofs (maxSteps := 2000000) (disch := first | exact tt_rfl rfl | omega | (simp only [go_sem] <;> omega) | fail) only [go_sem, hp] <;> try with_reducible rfl) | apply Wp.block | apply Wp.exitS | apply Wp.retS | apply Wp.exit | apply Wp.ret | apply Wp.skip)
  apply Wp.loopF n (fun k => ⟨[(0, .list 3 (a.map Part.av)), (1, .list 3 (b.map Part.av)), (2, .list 1 (ts.map fun n => iv n)), (8, iv n), (9, .slice 576 0 (n + 1)), (10, .slice 640 0 (n + 1)), (11, iv ((k : Int) + 1))],
    [(576, .arr 2 (((List.range (n + 1)).map fun j => if j ≤ k then fo wa wb ts j else ⟨0, 0⟩).map Span.av)), (640, .arr 2 (((List.range (n + 1)).map fun _ => (⟨0, 0⟩ : Span)).map Span.av))], [], 1000000⟩) (fun k => ∀ j, j < k → ¬ BadAt wa wb ts j)
  · simp -implicitDefEqProofs (maxSteps := 2000000) (disch := first | exact tt_rfl rfl | omega | (simp only [go_sem] <;> omega) | fail) only [go_sem, norm_eq, Ok.some, show ((n : Int) + 1).toNat = n + 1 by omega]
    have e1 : (fun j => if j ≤ 0 then fo wa wb ts j else (⟨0, 0⟩ : Span)) = fun _ => ⟨0, 0⟩ := by
      funext j; by_cases h : j ≤ 0
      · obtain rfl : j = 0 := by omega
        simp [fo]
      · simp [h]
    rw [e1]
    have e2 : ((List.range (n + 1)).map fun _ => (⟨0, 0⟩ : Span)).map Span.av = List.replicate (n + 1) (.agg [iv 0, iv 0]) := by
      rw [List.eq_replicate_iff]; simp [Span.av]
    rw [e2]
    try rfl
  · intro j hj; omega
  intro k hk hg
  by_cases h : k < n
  · have wa' := hWa k (by omega) (at' wa k) (at'_eq (by omega))
    have wb' := hWb k (by omega) (at' wb k) (at'_eq (by omega))
    have q1 := wda k
    have q2 := wdb k
    have q3 := fo_bound (ts := ts) wda wdb k
    have hg0 : ((List.range (n + 1)).map fun j => if j ≤ k then fo wa wb ts j else ⟨0, 0⟩)[k]? = some (fo wa wb ts k) := by
      simp [show k < n + 1 by omega]
    have hg1 : ((List.range (n + 1)).map fun j => if j ≤ k then fo wa wb ts j else ⟨0, 0⟩)[k + 1]? = some ⟨0, 0⟩ := by
      simp [show k + 1 < n + 1 by omega]
      intro h; omega
    have hm := hM ((k : Int) + 1)
    have e0 : (k : Int) + 1 - 1 = k := by omega
    have e1 : ((k : Int) + 1).toNat = k + 1 := by omega
    have h1 : (k : Int) + 1 ≤ n := by omega
    have hfin : ∀ s : Span, s = fo wa wb ts (k + 1) → ((((List.range (n + 1)).map fun j => if j ≤ k then fo wa wb ts j else ⟨0, 0⟩).map Span.av).set (k + 1) (Span.av s)) = ((List.range (n + 1)).map fun j => if j ≤ k + 1 then fo wa wb ts j else ⟨0, 0⟩).map Span.av := by
      rintro s rfl
      rw [set_map_av]
      refine congrArg _ (List.map_congr_left fun j hj => ?_)
      by_cases c1 : j = k + 1
      · subst c1; simp
      · by_cases c2 : j ≤ k
        · simp [c1, c2, show j ≤ k + 1 by omega]
        · simp [c1, c2, show ¬ j ≤ k + 1 by omega]
    clear hWa hWb hM wda wdb hp
    by_cases c : ((k : Int) + 1) ∈ ts
    · rw [decide_eq_true c] at hm
      by_cases z : (foR wa wb (fo wa wb ts k) k).Has0
      · obtain ⟨z1, z2⟩ := z
        have z1' := z1
        have z2' := z2
        simp only [foR] at z1 z2
        repeat (first | apply Wp.seqA | apply Wp.skipS | apply Wp.blockS | ((first | apply Wp.regS | apply Wp.condV | apply Wp.reg | apply Wp.condW | apply fin_ret); simp -implicitDefEqProofs (maxSteps := 2000000) (disch := first | exact tt_rfl rfl | omega | (simp only [go_sem] <;> omega) | fail) only [go_sem, h1, e0, e1, wa', wb', List.getElem?_map, hg0, hg1, Option.map_some, Span.av.eq_1, hm, show ¬ (0 : Int) < (fo wa wb ts k).lo + (at' wa k).lo - (at' wb k).hi by omega, show ¬ (fo wa wb ts k).hi + (at' wa k).hi - (at' wb k).lo < 0 by omega] <;> try with_reducible rfl) | apply Wp.block | apply Wp.exitS | apply Wp.retS | apply Wp.exit | apply Wp.ret | apply Wp.skip)
        apply round_next
        · simp -implicitDefEqProofs (maxSteps := 2000000) (disch := first | exact tt_rfl rfl | omega | (simp only [go_sem] <;> omega) | fail) only [go_sem, norm_eq, Ok.some]; with_reducible rfl
        refine ⟨h, ?_, fun j hj => ?_⟩
        · rw [← hfin ⟨0, 0⟩ (by simp [fo, c])]
          simp [Span.av]
        · by_cases e : j = k
          · subst e; exact fun hb => hb.2 ⟨z1', z2'⟩
          · exact hg j (by omega)
      · rw [hbad k h ⟨c, z⟩]
        simp only [foR, Span.Has0] at z
        by_cases z1 : (0 : Int) < (fo wa wb ts k).lo + (at' wa k).lo - (at' wb k).hi
        · repeat (first | apply Wp.seqA | apply Wp.skipS | apply Wp.blockS | ((first | apply Wp.regS | apply Wp.condV | apply Wp.reg | apply Wp.condW | apply fin_ret); simp -implicitDefEqProofs (maxSteps := 2000000) (disch := first | exact tt_rfl rfl | omega | (simp only [go_sem] <;> omega) | fail) only [go_sem, h1, e0, e1, wa', wb', List.getElem?_map, hg0, hg1, Option.map_some, Span.av.eq_1, hm, z1] <;> try with_reducible rfl) | apply Wp.block | apply Wp.exitS | apply Wp.retS | apply Wp.exit | apply Wp.ret | apply Wp.skip)
        · have z2 : (fo wa wb ts k).hi + (at' wa k).hi - (at' wb k).lo < 0 := by omega
          repeat (first | apply Wp.seqA | apply Wp.skipS | apply Wp.blockS | ((first | apply Wp.regS | apply Wp.condV | apply Wp.reg | apply Wp.condW | apply fin_ret); simp -implicitDefEqProofs (maxSteps := 2000000) (disch := first | exact tt_rfl rfl | omega | (simp only [go_sem] <;> omega) | fail) only [go_sem, h1, e0, e1, wa', wb', List.getElem?_map, hg0, hg1, Option.map_some, Span.av.eq_1, hm, z1, z2] <;> try with_reducible rfl) | apply Wp.block | apply Wp.exitS | apply Wp.retS | apply Wp.exit | apply Wp.ret | apply Wp.skip)
    · rw [decide_eq_false c] at hm
      repeat (first | apply Wp.seqA | apply Wp.skipS | apply Wp.blockS | ((first | apply Wp.regS | apply Wp.condV | apply Wp.reg | apply Wp.condW | apply fin_ret); simp -implicitDefEqProofs (maxSteps := 2000000) (disch := first | exact tt_rfl rfl | omega | (simp only [go_sem] <;> omega) | fail) only [go_sem, h1, e0, e1, wa', wb', List.getElem?_map, hg0, hg1, Option.map_some, Span.av.eq_1, hm] <;> try with_reducible rfl) | apply Wp.block | apply Wp.exitS | apply Wp.retS | apply Wp.exit | apply Wp.ret | apply Wp.skip)
      apply round_next
      · simp -implicitDefEqProofs (maxSteps := 2000000) (disch := first | exact tt_rfl rfl | omega | (simp only [go_sem] <;> omega) | fail) only [go_sem, norm_eq, Ok.some]; with_reducible rfl
      refine ⟨h, ?_, fun j hj => ?_⟩
      · rw [← hfin (foR wa wb (fo wa wb ts k) k) (by simp [fo, c])]
        simp [Span.av, foR]
      · by_cases e : j = k
        · subst e; exact fun hb => c hb.1
        · exact hg j (by omega)
  · obtain rfl : k = n := by omega
    rw [hgood hg]
    have h1 : ¬ (k : Int) + 1 ≤ k := by omega
    have hf : ((List.range (k + 1)).map fun j => if j ≤ k then fo wa wb ts j else ⟨0, 0⟩) = (List.range (k + 1)).map (fo wa wb ts) :=
      List.map_congr_left fun j hj => by rw [if_pos (by have := List.mem_range.1 hj; omega)]
    rw [hf]
    clear hf hgood hbad hg hp
    have hz : ((List.range (k + 1)).map fun _ => (⟨0, 0⟩ : Span))[k]? = some ⟨0, 0⟩ := by simp
    repeat (first | apply Wp.seqA | apply Wp.skipS | apply Wp.blockS | ((first | apply Wp.regS | apply Wp.condV | apply Wp.reg | apply Wp.condW | apply fin_ret); simp -implicitDefEqProofs (maxSteps := 2000000) (disch := first | exact tt_rfl rfl | omega | (simp only [go_sem] <;> omega) | fail) only [go_sem, h1, List.getElem?_map, hz, Option.map_some, Span.av.eq_1] <;> try with_reducible rfl) | apply Wp.block | apply Wp.exitS | apply Wp.retS | apply Wp.exit | apply Wp.ret | apply Wp.skip)
    apply Wp.loopF (k + 1) (fun d => ⟨[(0, .list 3 (a.map Part.av)), (1, .list 3 (b.map Part.av)), (2, .list 1 (ts.map fun n => iv n)), (8, iv k), (9, .slice 576 0 (k + 1)), (10, .slice 640 0 (k + 1)), (15, iv ((k : Int) - d))],
      [(576, .arr 2 (((List.range (k + 1)).map (fo wa wb ts)).map Span.av)), (640, .arr 2 (((List.range (k + 1)).map fun j => if k < j + d then baD wa wb ts k (k - j) else if d = 0 ∧ j = k then big else ⟨0, 0⟩).map Span.av))], [], 1000000⟩) (fun _ => True)
    · simp -implicitDefEqProofs (maxSteps := 2000000) (disch := first | exact tt_rfl rfl | omega | (simp only [go_sem] <;> omega) | fail) only [go_sem, norm_eq, Ok.some]
      have e4 : ((List.range (k + 1)).map fun j => if k < j then baD wa wb ts k (k - j) else if j = k then big else (⟨0, 0⟩ : Span)) = (List.range (k + 1)).map fun j => if j = k then big else ⟨0, 0⟩ :=
        List.map_congr_left fun j hj => by have := List.mem_range.1 hj; rw [if_neg (by omega : ¬ k < j)]
      rw [e4, ← set_map_av]
      simp [Span.av, big]
    · trivial
    intro d hd _
    by_cases hdk : d ≤ k
    · have hpos : (0 : Int) ≤ (k : Int) - d := by omega
      have ei : ((k : Int) - d).toNat = k - d := by omega
      have ei1 : ((k : Int) - d + 1).toNat = k - d + 1 := by omega
      have hm := hM ((k : Int) - d)
      have bb := fun d' => ba_bound (ts := ts) (n := k) wda wdb d'
      have hfin : ∀ s : Span, s = baD wa wb ts k d → ((((List.range (k + 1)).map fun j => if k < j + d then baD wa wb ts k (k - j) else if d = 0 ∧ j = k then big else (⟨0, 0⟩ : Span)).map Span.av).set (k - d) (Span.av s)) =
          ((List.range (k + 1)).map fun j => if k < j + (d + 1) then baD wa wb ts k (k - j) else if d + 1 = 0 ∧ j = k then big else (⟨0, 0⟩ : Span)).map Span.av := by
        rintro s rfl
        rw [set_map_av]
        refine congrArg _ (List.map_congr_left fun j hj => ?_)
        have hj := List.mem_range.1 hj
        by_cases c1 : j = k - d
        · subst c1; simp [show k < k - d + (d + 1) by omega, show k - (k - d) = d by omega]
        · by_cases c2 : k < j + d
          · simp [c1, c2, show k < j + (d + 1) by omega]
          · rw [if_neg c1, if_neg c2, if_neg (by omega : ¬ k < j + (d + 1)), if_neg (by omega : ¬ (d = 0 ∧ j = k)), if_neg (by omega)]
      have hL0 : (((List.range (k + 1)).map fun j => if k < j + d then baD wa wb ts k (k - j) else if d = 0 ∧ j = k then big else (⟨0, 0⟩ : Span)).map Span.av)[k - d]? = some (Span.av (if d = 0 then big else ⟨0, 0⟩)) := by
        simp [show k - d < k + 1 by omega, show ¬ k < k - d + d by omega]
        by_cases c : d = 0 <;> simp [c]
      have hL1 : 0 < d → (((List.range (k + 1)).map fun j => if k < j + d then baD wa wb ts k (k - j) else if d = 0 ∧ j = k then big else (⟨0, 0⟩ : Span)).map Span.av)[k - d + 1]? = some (Span.av (baD wa wb ts k (d - 1))) := by
        intro c
        simp [show k - d + 1 < k + 1 by omega, show k < k - d + 1 + d by omega, show k - (k - d + 1) = d - 1 by omega]
      have hLl : (((List.range (k + 1)).map fun j => if k < j + d then baD wa wb ts k (k - j) else if d = 0 ∧ j = k then big else (⟨0, 0⟩ : Span)).map Span.av).length = k + 1 := by simp
      generalize (((List.range (k + 1)).map fun j => if k < j + d then baD wa wb ts k (k - j) else if d = 0 ∧ j = k then big else (⟨0, 0⟩ : Span)).map Span.av) = L at *
      have hset : ∀ x, (L.set (k - d) x)[k - d]? = some x := fun x => by rw [List.getElem?_set_self (by omega)]
      have hWa' := hWa (k - d)
      have hWb' := hWb (k - d)
      have wda' := wda (k - d)
      have wdb' := wdb (k - d)
      rw [show ((k - d : Nat) : Int) = (k : Int) - d by omega] at hWa' hWb'
      clear hWa hWb hM
      cases d with
      | zero =>
        have e0 : (k : Int) - (0 : Nat) = k := by omega
        simp only [e0, Nat.sub_zero, if_true] at *
        have hlt0 : ¬ (k : Int) < k := by omega
        by_cases c : (k : Int) = 0 ∨ (k : Int) ∈ ts
        · have hb0 : baD wa wb ts k 0 = ⟨0, 0⟩ := by rw [baD, if_pos c]
          have hf0 := hfin _ hb0.symm
          by_cases c1 : (k : Int) = 0
          · repeat (first | apply Wp.seqA | apply Wp.skipS | apply Wp.blockS | ((first | apply Wp.regS | apply Wp.condV | apply Wp.reg | apply Wp.condW | apply fin_ret); simp -implicitDefEqProofs (maxSteps := 2000000) (disch := first | exact tt_rfl rfl | omega | (simp only [go_sem] <;> omega) | fail) only [go_sem, hlt0, hL0, Span.av.eq_1, big, decide_eq_true c1, hpos, ei] <;> try with_reducible rfl) | apply Wp.block | apply Wp.exitS | apply Wp.retS | apply Wp.exit | apply Wp.ret | apply Wp.skip)
            apply round_next
            · simp -implicitDefEqProofs (maxSteps := 2000000) (disch := first | exact tt_rfl rfl | omega | (simp only [go_sem] <;> omega) | fail) only [go_sem, norm_eq, Ok.some, hlt0, hL0, Span.av.eq_1, big, decide_eq_true c1, hpos, ei]; with_reducible rfl
            refine ⟨by omega, ?_, trivial⟩
            rw [← hf0]
            simp [Span.av]
          · have c2 := c.resolve_left c1
            rw [decide_eq_true c2] at hm
            repeat (first | apply Wp.seqA | apply Wp.skipS | apply Wp.blockS | ((first | apply Wp.regS | apply Wp.condV | apply Wp.reg | apply Wp.condW | apply fin_ret); simp -implicitDefEqProofs (maxSteps := 2000000) (disch := first | exact tt_rfl rfl | omega | (simp only [go_sem] <;> omega) | fail) only [go_sem, hlt0, hL0, Span.av.eq_1, big, decide_eq_false c1, hm, hpos, ei] <;> try with_reducible rfl) | apply Wp.block | apply Wp.exitS | apply Wp.retS | apply Wp.exit | apply Wp.ret | apply Wp.skip)
            apply round_next
            · simp -implicitDefEqProofs (maxSteps := 2000000) (disch := first | exact tt_rfl rfl | omega | (simp only [go_sem] <;> omega) | fail) only [go_sem, norm_eq, Ok.some]; with_reducible rfl
            refine ⟨by omega, ?_, trivial⟩
            rw [← hf0]
            simp [Span.av]
        · have hb0 : baD wa wb ts k 0 = big := by rw [baD, if_neg c]
          have hf0 := hfin _ hb0.symm
          have c1 : ¬ (k : Int) = 0 := fun e => c (.inl e)
          have c2 : ¬ (k : Int) ∈ ts := fun e => c (.inr e)
          rw [decide_eq_false c2] at hm
          repeat (first | apply Wp.seqA | apply Wp.skipS | apply Wp.blockS | ((first | apply Wp.regS | apply Wp.condV | apply Wp.reg | apply Wp.condW | apply fin_ret); simp -implicitDefEqProofs (maxSteps := 2000000) (disch := first | exact tt_rfl rfl | omega | (simp only [go_sem] <;> omega) | fail) only [go_sem, hlt0, hL0, Span.av.eq_1, big, decide_eq_false c1, hm, hpos, ei] <;> try with_reducible rfl) | apply Wp.block | apply Wp.exitS | apply Wp.retS | apply Wp.exit | apply Wp.ret | apply Wp.skip)
          apply round_next
          · simp -implicitDefEqProofs (maxSteps := 2000000) (disch := first | exact tt_rfl rfl | omega | (simp only [go_sem] <;> omega) | fail) only [go_sem, norm_eq, Ok.some]; with_reducible rfl
          refine ⟨by omega, ?_, trivial⟩
          rw [← hf0]
          have e5 : L.set k (Span.av big) = L := by
            apply List.ext_getElem? ; intro j
            by_cases e : j = k
            · subst e; rw [List.getElem?_set_self (by omega), hL0]
            · rw [List.getElem?_set_ne (fun h => e h.symm)]
          rw [e5]
          simp
      | succ d =>
        have hlt : (k : Int) - ((d + 1 : Nat) : Int) < k := by omega
        have wa' := hWa' hlt (at' wa (k - (d + 1))) (at'_eq (by omega))
        have wb' := hWb' (by omega) (at' wb (k - (d + 1))) (at'_eq (by omega))
        have hL1' := hL1 (by omega)
        have bd := bb d
        simp only [Nat.add_sub_cancel, Nat.add_eq_zero_iff, Nat.one_ne_zero, and_false, if_false] at hL1' hL0
        clear hWa' hWb' hL1 bb
        by_cases c : (k : Int) - ((d + 1 : Nat) : Int) = 0 ∨ (k : Int) - ((d + 1 : Nat) : Int) ∈ ts
        · have hb0 : baD wa wb ts k (d + 1) = ⟨0, 0⟩ := by rw [baD, if_pos c]
          have hf0 := hfin _ hb0.symm
          clear hfin
          by_cases c1 : (k : Int) - ((d + 1 : Nat) : Int) = 0
          · repeat (first | apply Wp.seqA | apply Wp.skipS | apply Wp.blockS | ((first | apply Wp.regS | apply Wp.condV | apply Wp.reg | apply Wp.condW | apply fin_ret); simp -implicitDefEqProofs (maxSteps := 2000000) (disch := first | exact tt_rfl rfl | omega | (simp only [go_sem] <;> omega) | fail) only [go_sem, hlt, hL0, hL1', Span.av.eq_1, decide_eq_true c1, hpos, ei, ei1, wa', wb', hset] <;> try with_reducible rfl) | apply Wp.block | apply Wp.exitS | apply Wp.retS | apply Wp.exit | apply Wp.ret | apply Wp.skip)
            apply round_next
            · simp -implicitDefEqProofs (maxSteps := 2000000) (disch := first | exact tt_rfl rfl | omega | (simp only [go_sem] <;> omega) | fail) only [go_sem, norm_eq, Ok.some]; with_reducible rfl
            refine ⟨by omega, ?_, trivial⟩
            rw [← hf0]
            simp [Span.av]; omega
          · have c2 := c.resolve_left c1
            rw [decide_eq_true c2] at hm
            repeat (first | apply Wp.seqA | apply Wp.skipS | apply Wp.blockS | ((first | apply Wp.regS | apply Wp.condV | apply Wp.reg | apply Wp.condW | apply fin_ret); simp -implicitDefEqProofs (maxSteps := 2000000) (disch := first | exact tt_rfl rfl | omega | (simp only [go_sem] <;> omega) | fail) only [go_sem, hlt, hL0, hL1', Span.av.eq_1, decide_eq_false c1, hm, hpos, ei, ei1, wa', wb', hset] <;> try with_reducible rfl) | apply Wp.block | apply Wp.exitS | apply Wp.retS | apply Wp.exit | apply Wp.ret | apply Wp.skip)
            apply round_next
            · simp -implicitDefEqProofs (maxSteps := 2000000) (disch := first | exact tt_rfl rfl | omega | (simp only [go_sem] <;> omega) | fail) only [go_sem, norm_eq, Ok.some]; with_reducible rfl
            refine ⟨by omega, ?_, trivial⟩
            rw [← hf0]
            simp [Span.av]; omega
        · have hb0 : baD wa wb ts k (d + 1) = ⟨(baD wa wb ts k d).lo - (at' wa (k - (d + 1))).hi + (at' wb (k - (d + 1))).lo, (baD wa wb ts k d).hi - (at' wa (k - (d + 1))).lo + (at' wb (k - (d + 1))).hi⟩ := by rw [baD, if_neg c]
          have hf0 := hfin _ hb0.symm
          clear hfin
          have c1 : ¬ (k : Int) - ((d + 1 : Nat) : Int) = 0 := fun e => c (.inl e)
          have c2 : ¬ (k : Int) - ((d + 1 : Nat) : Int) ∈ ts := fun e => c (.inr e)
          rw [decide_eq_false c2] at hm
          repeat (first | apply Wp.seqA | apply Wp.skipS | apply Wp.blockS | ((first | apply Wp.regS | apply Wp.condV | apply Wp.reg | apply Wp.condW | apply fin_ret); simp -implicitDefEqProofs (maxSteps := 2000000) (disch := first | exact tt_rfl rfl | omega | (simp only [go_sem] <;> omega) | fail) only [go_sem, hlt, hL0, hL1', Span.av.eq_1, decide_eq_false c1, hm, hpos, ei, ei1, wa', wb', hset] <;> try with_reducible rfl) | apply Wp.block | apply Wp.exitS | apply Wp.retS | apply Wp.exit | apply Wp.ret | apply Wp.skip)
          apply round_next
          · simp -implicitDefEqProofs (maxSteps := 2000000) (disch := first | exact tt_rfl rfl | omega | (simp only [go_sem] <;> omega) | fail) only [go_sem, norm_eq, Ok.some]; with_reducible rfl
          refine ⟨by omega, ?_, trivial⟩
          rw [← hf0]
          simp [Span.av]; omega
    · obtain rfl : d = k + 1 := by omega
      have hneg : ¬ (0 : Int) ≤ (k : Int) - ((k + 1 : Nat) : Int) := by omega
      have hB : ((List.range (k + 1)).map fun j => if k < j + (k + 1) then baD wa wb ts k (k - j) else if k + 1 = 0 ∧ j = k then big else (⟨0, 0⟩ : Span)) = (List.range (k + 1)).map fun j => baD wa wb ts k (k - j) :=
        List.map_congr_left fun j hj => by rw [if_pos (by omega)]
      rw [hB]
      repeat (first | apply Wp.seqA | apply Wp.skipS | apply Wp.blockS | ((first | apply Wp.regS | apply Wp.condV | apply Wp.reg | apply Wp.condW | apply fin_ret); simp -implicitDefEqProofs (maxSteps := 2000000) (disch := first | exact tt_rfl rfl | omega | (simp only [go_sem] <;> omega) | fail) only [go_sem, hneg] <;> try with_reducible rfl) | apply Wp.block | apply Wp.exitS | apply Wp.retS | apply Wp.exit | apply Wp.ret | apply Wp.skip)
      apply Wp.loopF (k + 1) (fun j => ⟨[(8, iv k), (9, .slice 576 0 (k + 1)), (10, .slice 640 0 (k + 1)), (18, .slice 1152 0 j), (19, iv j)],
        [(576, .arr 2 (((List.range (k + 1)).map (fo wa wb ts)).map Span.av)), (640, .arr 2 (((List.range (k + 1)).map fun j => baD wa wb ts k (k - j)).map Span.av)), (1152, .arr 2 (((List.range j).map (outR wa wb ts k)).map Span.av))], [], 1000000⟩) (fun _ => True)
      · simp -implicitDefEqProofs (maxSteps := 2000000) (disch := first | exact tt_rfl rfl | omega | (simp only [go_sem] <;> omega) | fail) only [go_sem, norm_eq, Ok.some]
        simp
      · trivial
      intro j hj _
      by_cases hjk : j < k + 1
      · have h1 : (j : Int) ≤ k := by omega
        have g1 : ((List.range (k + 1)).map (fo wa wb ts))[j]? = some (fo wa wb ts j) := by simp [hjk]
        have g2 : ((List.range (k + 1)).map fun j => baD wa wb ts k (k - j))[j]? = some (baD wa wb ts k (k - j)) := by simp [hjk]
        repeat (first | apply Wp.seqA | apply Wp.skipS | apply Wp.blockS | ((first | apply Wp.regS | apply Wp.condV | apply Wp.reg | apply Wp.condW | apply fin_ret); simp -implicitDefEqProofs (maxSteps := 2000000) (disch := first | exact tt_rfl rfl | omega | (simp only [go_sem] <;> omega) | fail) only [go_sem, h1, List.getElem?_map, g1, g2, Option.map_some, Span.av.eq_1] <;> try with_reducible rfl) | apply Wp.block | apply Wp.exitS | apply Wp.retS | apply Wp.exit | apply Wp.ret | apply Wp.skip)
        apply round_next
        · simp -implicitDefEqProofs (maxSteps := 2000000) (disch := first | exact tt_rfl rfl | omega | (simp only [go_sem] <;> omega) | fail) only [go_sem, norm_eq, Ok.some]; with_reducible rfl
        refine ⟨hjk, ?_, trivial⟩
        simp [List.range_succ, outR, Span.av]
      · obtain rfl : j = k + 1 := by omega
        have h1 : ¬ ((k + 1 : Nat) : Int) ≤ k := by omega
        repeat (first | apply Wp.seqA | apply Wp.skipS | apply Wp.blockS | ((first | apply Wp.regS | apply Wp.condV | apply Wp.reg | apply Wp.condW | apply fin_ret); simp -implicitDefEqProofs (maxSteps := 2000000) (disch := first | exact tt_rfl rfl | omega | (simp only [go_sem] <;> omega) | fail) only [go_sem, h1] <;> try with_reducible rfl) | apply Wp.block | apply Wp.exitS | apply Wp.retS | apply Wp.exit | apply Wp.ret | apply Wp.skip)
end Go.Abs
