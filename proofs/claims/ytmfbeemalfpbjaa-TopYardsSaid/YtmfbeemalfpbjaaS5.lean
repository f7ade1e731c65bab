/-
  Chapter 7: contracts of open, Ahead, Places, and of the statements' own small functions.
-/
import Derived.Test.YtmfbeemalfpbjaaS4
set_option linter.all false
namespace Go.Abs
set_option maxRecDepth 10000
set_option maxHeartbeats 4000000

@[go_sem] theorem take_len_map {α β : Type} (f : α → β) (l : List α) : List.take l.length (List.map f l) = List.map f l := List.take_of_length_le (by simp)

def incL : List Int → Bool
  | a :: b :: r => decide (a < b) && incL (b :: r)
  | _ => true
theorem incL_iff : ∀ {ts : List Int}, incL ts = true ↔ ∀ i (h : i + 1 < ts.length), ts[i] < ts[i + 1]
  | [] => by simp [incL]
  | [a] => by simp [incL]
  | a :: b :: r => by
    have ih := incL_iff (ts := b :: r)
    simp only [incL, Bool.and_eq_true, decide_eq_true_eq, ih]
    constructor
    · rintro ⟨h1, h2⟩ i hi
      cases i with
      | zero => exact h1
      | succ i => exact h2 i (by simp at hi ⊢; omega)
    · intro h
      exact ⟨h 0 (by simp), fun i hi => h (i + 1) (by simp at hi ⊢; omega)⟩
theorem up_of {n : Nat} : ∀ {ts : List Int} {f : Int}, (∀ t ∈ ts, f < t ∧ t ≤ n) → incL ts = true → Up n f ts
  | [], _, _, _ => trivial
  | [a], f, h, _ => ⟨(h a (by simp)).1, (h a (by simp)).2, trivial⟩
  | a :: b :: r, f, h, hi => by
    simp only [incL, Bool.and_eq_true, decide_eq_true_eq] at hi
    refine ⟨(h a (by simp)).1, (h a (by simp)).2, up_of (fun t ht => ⟨?_, (h t (List.mem_cons_of_mem _ ht)).2⟩) hi.2⟩
    have key : ∀ (l : List Int) (x : Int), incL (x :: l) = true → ∀ t ∈ l, x < t := by
      intro l
      induction l with
      | nil => simp
      | cons y l ih =>
        intro x hx t ht
        simp only [incL, Bool.and_eq_true, decide_eq_true_eq] at hx
        rcases List.mem_cons.1 ht with rfl | ht
        · exact hx.1
        · have := ih y hx.2 t ht; omega
    rcases List.mem_cons.1 ht with rfl | ht
    · exact hi.1
    · have := key r b hi.2 t ht; omega

/-- the error of two lengths with marks -/
def openE (a b : List Part) (ts : List Int) : Int :=
  if (pairL a b).e ≠ 0 then (pairL a b).e else if (ts.all fun t => decide (1 ≤ t ∧ t ≤ (pairL a b).more.length)) = false then 2 else if incL ts = false then 6
  else if (aheadGo (pairL a b).more 0 ts).isSome = false then 9 else 0
def openL (a b : List Part) (ts : List Int) : List Span := if openE a b ts = 0 then (aheadGo (pairL a b).more 0 ts).getD [] else []

theorem pairL_ok {a b : List Part} (h : (pairL a b).e = 0) : checkL a = 0 ∧ checkL b = 0 ∧ picksL a = picksL b ∧ pairL a b = ⟨widthsL a, widthsL b, moreL (widthsL a) (widthsL b), 0⟩ := by
  unfold pairL at h ⊢
  by_cases h1 : checkL a = 0
  · by_cases h2 : checkL b = 0
    · by_cases h3 : picksL a = picksL b
      · simp [h1, h2, h3]
      · simp [h1, h2, h3] at h
    · simp [h1, h2] at h
  · simp [h1] at h

theorem open_ok (a b : List Part) (ts : List Int) (hts : ts.length ≤ 1000) : lim F 30 [.list 3 (a.map Part.av), .list 3 (b.map Part.av), .list 1 (ts.map fun n => iv n)] =
    some (.tuple [(pairL a b).av, .own 2 ((openL a b ts).map Span.av), iv (openE a b ts)], []) := by
  have hnp := newPair_ok a b
  have hsm : (pairL a b).e = 0 → Small (pairL a b).more := fun h => by
    obtain ⟨h1, h2, h3, h4⟩ := pairL_ok h
    rw [h4]; exact more_small h1 h2
  unfold openL openE
  generalize pairL a b = p at *
  simp only [PairL.av] at hnp ⊢
  by_cases h0 : p.e = 0
  · have hsm := hsm h0
    have hl := hsm.1
    rw [h0] at hnp
    have hw := within_ok 1 p.more.length ts (by omega)
    cases h1 : (ts.all fun t => decide (1 ≤ t ∧ t ≤ (p.more.length : Int))) with
    | false =>
      rw [h1] at hw
      refine lim_by (fn := a30) (k := 3) (res := [.cell 6 3 true, .tmp 7, .tmp 8]) rfl rfl rfl (by simp -implicitDefEqProofs (maxSteps := 2000000) (disch := first | exact tt_rfl rfl | omega | (simp only [go_sem] <;> omega) | fail) only [go_sem]) ?_
      simp -implicitDefEqProofs (maxSteps := 2000000) (disch := first | exact tt_rfl rfl | omega | (simp only [go_sem] <;> omega) | fail) only [go_sem]
      repeat (first | apply Wp.seqA | apply Wp.skipS | apply Wp.blockS | ((first | apply Wp.regS | apply Wp.condV | apply Wp.reg | apply Wp.condW | apply fin_ret); simp -implicitDefEqProofs (maxSteps := 2000000) (disch := first | exact tt_rfl rfl | omega | (simp only [go_sem] <;> omega) | fail) only [go_sem, hnp, hw] <;> try with_reducible rfl) | apply Wp.block | apply Wp.exitS | apply Wp.retS | apply Wp.exit | apply Wp.ret | apply Wp.skip)
      simp [h0]
    | true =>
      rw [h1] at hw
      refine lim_by (fn := a30) (k := 3) (res := [.cell 6 3 true, .tmp 7, .tmp 8]) rfl rfl rfl (by simp -implicitDefEqProofs (maxSteps := 2000000) (disch := first | exact tt_rfl rfl | omega | (simp only [go_sem] <;> omega) | fail) only [go_sem]) ?_
      simp -implicitDefEqProofs (maxSteps := 2000000) (disch := first | exact tt_rfl rfl | omega | (simp only [go_sem] <;> omega) | fail) only [go_sem]
      repeat (first | apply Wp.seqA | apply Wp.skipS | apply Wp.blockS | ((first | apply Wp.regS | apply Wp.condV | apply Wp.reg | apply Wp.condW | apply fin_ret); simp -implicitDefEqProofs (maxSteps := 2000000) (disch := first | exact tt_rfl rfl | omega | (simp only [go_sem] <;> omega) | fail) only [go_sem, hnp, hw] <;> try with_reducible rfl) | apply Wp.block | apply Wp.exitS | apply Wp.retS | apply Wp.exit | apply Wp.ret | apply Wp.skip)
      apply Wp.loopF ts.length (fun i => ⟨[(2, .list 1 (ts.map fun n => iv n)), (6, .ptr 384 0 0), (29, iv ts.length), (30, iv i)],
        [(384, .box [.slice 306144 0 p.a.length, .slice 306145 0 p.b.length, .slice 306146 0 p.more.length]), (306144, .arr 2 (p.a.map Span.av)), (306145, .arr 2 (p.b.map Span.av)), (306146, .arr 2 (p.more.map Span.av))], [], 10000000⟩)
        (fun i => ∀ j (h : j + 1 < ts.length), j + 1 < i → ts[j] < ts[j + 1])
      · simp -implicitDefEqProofs (maxSteps := 2000000) (disch := first | exact tt_rfl rfl | omega | (simp only [go_sem] <;> omega) | fail) only [go_sem, norm_eq, Ok.some]
      · intro j h hj; omega
      intro i hi hinc
      by_cases h : i < ts.length
      · have hxi : ts[i]? = some ts[i] := List.getElem?_eq_getElem h
        cases i with
        | zero =>
          repeat (first | apply Wp.seqA | apply Wp.skipS | apply Wp.blockS | ((first | apply Wp.regS | apply Wp.condV | apply Wp.reg | apply Wp.condW | apply fin_ret); simp -implicitDefEqProofs (maxSteps := 2000000) (disch := first | exact tt_rfl rfl | omega | (simp only [go_sem] <;> omega) | fail) only [go_sem, show (0 : Int) < (ts.length : Int) by omega, List.getElem?_map, hxi, Option.map_some] <;> try with_reducible rfl) | apply Wp.block | apply Wp.exitS | apply Wp.retS | apply Wp.exit | apply Wp.ret | apply Wp.skip)
          apply round_next
          · simp -implicitDefEqProofs (maxSteps := 2000000) (disch := first | exact tt_rfl rfl | omega | (simp only [go_sem] <;> omega) | fail) only [go_sem, norm_eq, Ok.some]; with_reducible rfl
          exact ⟨h, by simp, fun j _ hj => by omega⟩
        | succ i =>
          have hx : ts[i]? = some ts[i] := List.getElem?_eq_getElem (by omega)
          by_cases hc : ts[i + 1] ≤ ts[i]
          · have hno : incL ts = false := by
              rw [← Bool.not_eq_true, incL_iff]; intro hh; have := hh i h; omega
            repeat (first | apply Wp.seqA | apply Wp.skipS | apply Wp.blockS | ((first | apply Wp.regS | apply Wp.condV | apply Wp.reg | apply Wp.condW | apply fin_ret); simp -implicitDefEqProofs (maxSteps := 2000000) (disch := first | exact tt_rfl rfl | omega | (simp only [go_sem] <;> omega) | fail) only [go_sem, h, Int.ofNat_lt, List.getElem?_map, hxi, hx, Option.map_some, hc, show (0 : Int) < ((i + 1 : Nat) : Int) by omega, show (((i + 1 : Nat) : Int) - 1).toNat = i by omega] <;> try with_reducible rfl) | apply Wp.block | apply Wp.exitS | apply Wp.retS | apply Wp.exit | apply Wp.ret | apply Wp.skip)
            simp [h0, hno]
          · repeat (first | apply Wp.seqA | apply Wp.skipS | apply Wp.blockS | ((first | apply Wp.regS | apply Wp.condV | apply Wp.reg | apply Wp.condW | apply fin_ret); simp -implicitDefEqProofs (maxSteps := 2000000) (disch := first | exact tt_rfl rfl | omega | (simp only [go_sem] <;> omega) | fail) only [go_sem, h, Int.ofNat_lt, List.getElem?_map, hxi, hx, Option.map_some, hc, show (0 : Int) < ((i + 1 : Nat) : Int) by omega, show (((i + 1 : Nat) : Int) - 1).toNat = i by omega] <;> try with_reducible rfl) | apply Wp.block | apply Wp.exitS | apply Wp.retS | apply Wp.exit | apply Wp.ret | apply Wp.skip)
            apply round_next
            · simp -implicitDefEqProofs (maxSteps := 2000000) (disch := first | exact tt_rfl rfl | omega | (simp only [go_sem] <;> omega) | fail) only [go_sem, norm_eq, Ok.some]; with_reducible rfl
            refine ⟨h, by simp, fun j hj hji => ?_⟩
            by_cases e : j = i
            · subst e; omega
            · exact hinc j hj (by omega)
      · obtain rfl : i = ts.length := by omega
        have hyes : incL ts = true := incL_iff.2 fun j hj => hinc j hj hj
        have hup : Up p.more.length 0 ts := up_of (fun t ht => by have := List.all_eq_true.1 h1 t ht; simp at this; omega) hyes
        have hah := pairAhead_ok (.list 2 (p.a.map Span.av)) (.list 2 (p.b.map Span.av)) p.more ts hsm hup ⟨_, _, rfl⟩ ⟨_, _, rfl⟩ hts
        cases hgo : aheadGo p.more 0 ts with
        | none =>
          rw [hgo] at hah
          simp only [Option.getD_none, List.map_nil, Option.isSome_none] at hah
          repeat (first | apply Wp.seqA | apply Wp.skipS | apply Wp.blockS | ((first | apply Wp.regS | apply Wp.condV | apply Wp.reg | apply Wp.condW | apply fin_ret); simp -implicitDefEqProofs (maxSteps := 2000000) (disch := first | exact tt_rfl rfl | omega | (simp only [go_sem] <;> omega) | fail) only [go_sem, Int.lt_irrefl, hah] <;> try with_reducible rfl) | apply Wp.block | apply Wp.exitS | apply Wp.retS | apply Wp.exit | apply Wp.ret | apply Wp.skip)
          simp [h0, hyes]
        | some l =>
          rw [hgo] at hah
          simp only [Option.getD_some, Option.isSome_some] at hah
          repeat (first | apply Wp.seqA | apply Wp.skipS | apply Wp.blockS | ((first | apply Wp.regS | apply Wp.condV | apply Wp.reg | apply Wp.condW | apply fin_ret); simp -implicitDefEqProofs (maxSteps := 2000000) (disch := first | exact tt_rfl rfl | omega | (simp only [go_sem] <;> omega) | fail) only [go_sem, Int.lt_irrefl, hah] <;> try with_reducible rfl) | apply Wp.block | apply Wp.exitS | apply Wp.retS | apply Wp.exit | apply Wp.ret | apply Wp.skip)
          simp [h0, hyes]
  · refine lim_by (fn := a30) (k := 3) (res := [.cell 6 3 true, .tmp 7, .tmp 8]) rfl rfl rfl (by simp -implicitDefEqProofs (maxSteps := 2000000) (disch := first | exact tt_rfl rfl | omega | (simp only [go_sem] <;> omega) | fail) only [go_sem]) ?_
    simp -implicitDefEqProofs (maxSteps := 2000000) (disch := first | exact tt_rfl rfl | omega | (simp only [go_sem] <;> omega) | fail) only [go_sem]
    repeat (first | apply Wp.seqA | apply Wp.skipS | apply Wp.blockS | ((first | apply Wp.regS | apply Wp.condV | apply Wp.reg | apply Wp.condW | apply fin_ret); simp -implicitDefEqProofs (maxSteps := 2000000) (disch := first | exact tt_rfl rfl | omega | (simp only [go_sem] <;> omega) | fail) only [go_sem, hnp, h0] <;> try with_reducible rfl) | apply Wp.block | apply Wp.exitS | apply Wp.retS | apply Wp.exit | apply Wp.ret | apply Wp.skip)

theorem Ahead_ok (a b : List Part) (ts : List Int) (hts : ts.length ≤ 1000) : lim F 12 [.list 3 (a.map Part.av), .list 3 (b.map Part.av), .list 1 (ts.map fun n => iv n)] =
    some (.tuple [.own 2 ((openL a b ts).map Span.av), iv (openE a b ts)], []) := by
  have h := open_ok a b ts hts
  simp only [PairL.av] at h
  by_cases h0 : openE a b ts = 0
  · rw [h0] at h ⊢
    refine lim_by (fn := a12) (k := 3) (res := [.tmp 6, .tmp 7]) rfl rfl rfl (by simp -implicitDefEqProofs (maxSteps := 2000000) (disch := first | exact tt_rfl rfl | omega | (simp only [go_sem] <;> omega) | fail) only [go_sem]) ?_
    simp -implicitDefEqProofs (maxSteps := 2000000) (disch := first | exact tt_rfl rfl | omega | (simp only [go_sem] <;> omega) | fail) only [go_sem]
    repeat (first | apply Wp.seqA | apply Wp.skipS | apply Wp.blockS | ((first | apply Wp.regS | apply Wp.condV | apply Wp.reg | apply Wp.condW | apply fin_ret); simp -implicitDefEqProofs (maxSteps := 2000000) (disch := first | exact tt_rfl rfl | omega | (simp only [go_sem] <;> omega) | fail) only [go_sem, h] <;> try with_reducible rfl) | apply Wp.block | apply Wp.exitS | apply Wp.retS | apply Wp.exit | apply Wp.ret | apply Wp.skip)
  · have e : openL a b ts = [] := by simp [openL, h0]
    rw [e] at h ⊢
    refine lim_by (fn := a12) (k := 3) (res := [.tmp 6, .tmp 7]) rfl rfl rfl (by simp -implicitDefEqProofs (maxSteps := 2000000) (disch := first | exact tt_rfl rfl | omega | (simp only [go_sem] <;> omega) | fail) only [go_sem]) ?_
    simp -implicitDefEqProofs (maxSteps := 2000000) (disch := first | exact tt_rfl rfl | omega | (simp only [go_sem] <;> omega) | fail) only [go_sem]
    repeat (first | apply Wp.seqA | apply Wp.skipS | apply Wp.blockS | ((first | apply Wp.regS | apply Wp.condV | apply Wp.reg | apply Wp.condW | apply fin_ret); simp -implicitDefEqProofs (maxSteps := 2000000) (disch := first | exact tt_rfl rfl | omega | (simp only [go_sem] <;> omega) | fail) only [go_sem, h, h0] <;> try with_reducible rfl) | apply Wp.block | apply Wp.exitS | apply Wp.retS | apply Wp.exit | apply Wp.ret | apply Wp.skip)

theorem widths_small {l : List Part} (h : checkL l = 0) : Small (widthsL l) := by
  obtain ⟨a1, a2, a3⟩ := checkL_zero h
  have la := widths_length a2
  have ma := widths_mem a2
  exact ⟨by omega, fun s hs => by have := ma s hs; omega⟩
def placesL (l : List Part) : List Span := if checkL l = 0 then sumsL (widthsL l) else []
theorem Places_ok (l : List Part) : lim F 10 [.list 3 (l.map Part.av)] = some (.tuple [.own 2 ((placesL l).map Span.av), iv (checkL l)], []) := by
  have hc := Check_ok l
  by_cases h : checkL l = 0
  · obtain ⟨a1, a2, a3⟩ := checkL_zero h
    have hw := widths_ok l a1 a2
    have hs := sums_small _ (widths_small h)
    rw [h] at hc
    refine lim_by (fn := a10) (k := 1) (res := [.tmp 2, .tmp 3]) rfl rfl rfl (by simp -implicitDefEqProofs (maxSteps := 2000000) (disch := first | exact tt_rfl rfl | omega | (simp only [go_sem] <;> omega) | fail) only [go_sem]) ?_
    simp -implicitDefEqProofs (maxSteps := 2000000) (disch := first | exact tt_rfl rfl | omega | (simp only [go_sem] <;> omega) | fail) only [go_sem]
    repeat (first | apply Wp.seqA | apply Wp.skipS | apply Wp.blockS | ((first | apply Wp.regS | apply Wp.condV | apply Wp.reg | apply Wp.condW | apply fin_ret); simp -implicitDefEqProofs (maxSteps := 2000000) (disch := first | exact tt_rfl rfl | omega | (simp only [go_sem] <;> omega) | fail) only [go_sem, hc, hw, hs] <;> try with_reducible rfl) | apply Wp.block | apply Wp.exitS | apply Wp.retS | apply Wp.exit | apply Wp.ret | apply Wp.skip)
    simp [placesL, h]
  · refine lim_by (fn := a10) (k := 1) (res := [.tmp 2, .tmp 3]) rfl rfl rfl (by simp -implicitDefEqProofs (maxSteps := 2000000) (disch := first | exact tt_rfl rfl | omega | (simp only [go_sem] <;> omega) | fail) only [go_sem]) ?_
    simp -implicitDefEqProofs (maxSteps := 2000000) (disch := first | exact tt_rfl rfl | omega | (simp only [go_sem] <;> omega) | fail) only [go_sem]
    repeat (first | apply Wp.seqA | apply Wp.skipS | apply Wp.blockS | ((first | apply Wp.regS | apply Wp.condV | apply Wp.reg | apply Wp.condW | apply fin_ret); simp -implicitDefEqProofs (maxSteps := 2000000) (disch := first | exact tt_rfl rfl | omega | (simp only [go_sem] <;> omega) | fail) only [go_sem, hc, h] <;> try with_reducible rfl) | apply Wp.block | apply Wp.exitS | apply Wp.retS | apply Wp.exit | apply Wp.ret | apply Wp.skip)
    simp [placesL, h]

/-! ### The statements' own -/

structure PairA where
  a : List Part
  b : List Part
  marks : List Int
def PairA.av (x : PairA) : AV := .agg [.list 3 (x.a.map Part.av), .list 3 (x.b.map Part.av), .list 1 (x.marks.map fun n => iv n)]
abbrev PairA.Large (x : PairA) : Prop := 20 < x.a.length ∨ 20 < x.b.length ∨ 210 < x.marks.length

end Go.Abs

