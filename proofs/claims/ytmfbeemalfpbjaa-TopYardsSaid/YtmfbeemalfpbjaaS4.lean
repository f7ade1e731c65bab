/-
  Chapter 7: contracts of pairs of lengths with marks.
-/
import Derived.Test.YtmfbeemalfpbjaaS3
set_option linter.all false
namespace Go.Abs
set_option maxRecDepth 10000
set_option maxHeartbeats 4000000

@[go_sem] theorem cast0 : ((0 : Nat) : Int) = 0 := id rfl
@[go_sem] theorem cast1 : ((1 : Nat) : Int) = 1 := id rfl
@[go_sem] theorem cast2 : ((2 : Nat) : Int) = 2 := id rfl
def Span.sub (a b : Span) : Span := ⟨a.lo - b.hi, a.hi - b.lo⟩
/-- how much wider each pick of the first length is -/
def moreL (wa wb : List Span) : List Span := List.zipWith Span.sub wa wb

theorem widths_mem {l : List Part} (hok : ∀ p ∈ l, p.Ok) : ∀ s ∈ widthsL l, 1 ≤ s.lo ∧ s.lo ≤ s.hi ∧ s.hi ≤ 10000 := by
  induction l with
  | nil => simp [widthsL]
  | cons p l ih =>
    intro s hs
    simp only [widthsL, List.mem_append, List.mem_replicate] at hs
    rcases hs with ⟨_, rfl⟩ | hs
    · have := hok p (by simp); simp only [Part.w]; omega
    · exact ih (fun q hq => hok q (List.mem_cons_of_mem _ hq)) s hs

theorem more_small {a b : List Part} (ha : checkL a = 0) (hb : checkL b = 0) : Small (moreL (widthsL a) (widthsL b)) := by
  obtain ⟨a1, a2, a3⟩ := checkL_zero ha
  obtain ⟨b1, b2, b3⟩ := checkL_zero hb
  have la := widths_length a2
  have ma := widths_mem a2
  have mb := widths_mem b2
  refine ⟨by simp [moreL]; omega, fun s hs => ?_⟩
  obtain ⟨i, hi, rfl⟩ := List.getElem_of_mem hs
  simp only [moreL, List.getElem_zipWith]
  simp only [moreL, List.length_zipWith] at hi
  have h1 := ma (widthsL a)[i] (List.getElem_mem (by omega))
  have h2 := mb (widthsL b)[i] (List.getElem_mem (by omega))
  simp only [Span.sub]
  omega

structure PairL where
  a : List Span
  b : List Span
  more : List Span
  e : Int
def pairL (a b : List Part) : PairL :=
  if checkL a ≠ 0 then ⟨[], [], [], checkL a⟩ else if checkL b ≠ 0 then ⟨[], [], [], checkL b⟩
  else if picksL a ≠ picksL b then ⟨widthsL a, widthsL b, [], 4⟩ else ⟨widthsL a, widthsL b, moreL (widthsL a) (widthsL b), 0⟩
def PairL.av (p : PairL) : AV := .agg [.own 2 (p.a.map Span.av), .own 2 (p.b.map Span.av), .own 2 (p.more.map Span.av)]

theorem newPair_ok (a b : List Part) : lim F 45 [.list 3 (a.map Part.av), .list 3 (b.map Part.av)] = some (.tuple [(pairL a b).av, iv (pairL a b).e], []) := by
  have ca := Check_ok a
  have cb := Check_ok b
  refine lim_by (fn := a45) (k := 2) (res := [.cell 4 3 true, .tmp 5]) rfl rfl rfl (by simp -implicitDefEqProofs (maxSteps := 2000000) (disch := first | exact tt_rfl rfl | omega | (simp only [go_sem] <;> omega) | fail) only [go_sem]) ?_
  simp -implicitDefEqProofs (maxSteps := 2000000) (disch := first | exact tt_rfl rfl | omega | (simp only [go_sem] <;> omega) | fail) only [go_sem]
  repeat (first | apply Wp.seqA | apply Wp.skipS | apply Wp.blockS | ((first | apply Wp.regS | apply Wp.condV | apply Wp.reg | apply Wp.condW | apply fin_ret); simp -implicitDefEqProofs (maxSteps := 2000000) (disch := first | exact tt_rfl rfl | omega | (simp only [go_sem] <;> omega) | fail) only [go_sem] <;> try with_reducible rfl) | apply Wp.block | apply Wp.exitS | apply Wp.retS | apply Wp.exit | apply Wp.ret | apply Wp.skip)
  apply Wp.loopF 2 (fun i => ⟨[(0, .list 3 (a.map Part.av)), (1, .list 3 (b.map Part.av)), (4, .ptr 256 0 0), (13, .agg [.list 3 (a.map Part.av), .list 3 (b.map Part.av)]), (14, iv i)],
    [(256, .box [.slice 304096 0 0, .slice 304097 0 0, .slice 304098 0 0]), (304096, .arr 2 []), (304097, .arr 2 []), (304098, .arr 2 [])], [], 10000000⟩) (fun i => (1 ≤ i → checkL a = 0) ∧ (2 ≤ i → checkL b = 0))
  · simp -implicitDefEqProofs (maxSteps := 2000000) (disch := first | exact tt_rfl rfl | omega | (simp only [go_sem] <;> omega) | fail) only [go_sem, norm_eq, Ok.some]
  · exact ⟨by omega, by omega⟩
  intro i hi hp
  obtain rfl | rfl | rfl : i = 0 ∨ i = 1 ∨ i = 2 := by omega
  · by_cases h1 : checkL a = 0
    · rw [h1] at ca
      repeat (first | apply Wp.seqA | apply Wp.skipS | apply Wp.blockS | ((first | apply Wp.regS | apply Wp.condV | apply Wp.reg | apply Wp.condW | apply fin_ret); simp -implicitDefEqProofs (maxSteps := 2000000) (disch := first | exact tt_rfl rfl | omega | (simp only [go_sem] <;> omega) | fail) only [go_sem, ca] <;> try with_reducible rfl) | apply Wp.block | apply Wp.exitS | apply Wp.retS | apply Wp.exit | apply Wp.ret | apply Wp.skip)
      apply round_next
      · simp -implicitDefEqProofs (maxSteps := 2000000) (disch := first | exact tt_rfl rfl | omega | (simp only [go_sem] <;> omega) | fail) only [go_sem, norm_eq, Ok.some]; with_reducible rfl
      exact ⟨by omega, rfl, fun _ => h1, by omega⟩
    · repeat (first | apply Wp.seqA | apply Wp.skipS | apply Wp.blockS | ((first | apply Wp.regS | apply Wp.condV | apply Wp.reg | apply Wp.condW | apply fin_ret); simp -implicitDefEqProofs (maxSteps := 2000000) (disch := first | exact tt_rfl rfl | omega | (simp only [go_sem] <;> omega) | fail) only [go_sem, ca, h1] <;> try with_reducible rfl) | apply Wp.block | apply Wp.exitS | apply Wp.retS | apply Wp.exit | apply Wp.ret | apply Wp.skip)
      simp [pairL, h1, PairL.av]
  · have h1 := hp.1 (by omega)
    by_cases h2 : checkL b = 0
    · rw [h2] at cb
      repeat (first | apply Wp.seqA | apply Wp.skipS | apply Wp.blockS | ((first | apply Wp.regS | apply Wp.condV | apply Wp.reg | apply Wp.condW | apply fin_ret); simp -implicitDefEqProofs (maxSteps := 2000000) (disch := first | exact tt_rfl rfl | omega | (simp only [go_sem] <;> omega) | fail) only [go_sem, cb] <;> try with_reducible rfl) | apply Wp.block | apply Wp.exitS | apply Wp.retS | apply Wp.exit | apply Wp.ret | apply Wp.skip)
      apply round_next
      · simp -implicitDefEqProofs (maxSteps := 2000000) (disch := first | exact tt_rfl rfl | omega | (simp only [go_sem] <;> omega) | fail) only [go_sem, norm_eq, Ok.some]; with_reducible rfl
      exact ⟨by omega, rfl, fun _ => h1, fun _ => h2⟩
    · repeat (first | apply Wp.seqA | apply Wp.skipS | apply Wp.blockS | ((first | apply Wp.regS | apply Wp.condV | apply Wp.reg | apply Wp.condW | apply fin_ret); simp -implicitDefEqProofs (maxSteps := 2000000) (disch := first | exact tt_rfl rfl | omega | (simp only [go_sem] <;> omega) | fail) only [go_sem, cb, h2] <;> try with_reducible rfl) | apply Wp.block | apply Wp.exitS | apply Wp.retS | apply Wp.exit | apply Wp.ret | apply Wp.skip)
      simp [pairL, h1, h2, PairL.av]
  · have h1 := hp.1 (by omega)
    have h2 := hp.2 (by omega)
    obtain ⟨a1, a2, a3⟩ := checkL_zero h1
    obtain ⟨b1, b2, b3⟩ := checkL_zero h2
    have wa := widths_ok a a1 a2
    have wb := widths_ok b b1 b2
    have la := widths_length a2
    have lb := widths_length b2
    by_cases h3 : picksL a = picksL b
    · have ll : (widthsL a).length = (widthsL b).length := by omega
      have ma := widths_mem a2
      have mb := widths_mem b2
      have hlen : (widthsL b).length ≤ 200 := by omega
      have hpl : pairL a b = ⟨widthsL a, widthsL b, moreL (widthsL a) (widthsL b), 0⟩ := by simp [pairL, h1, h2, h3]
      rw [hpl]
      clear hpl ca cb la lb a1 a2 a3 b1 b2 b3 h1 h2 h3 hp hi
      generalize widthsL a = va at *
      generalize widthsL b = vb at *
      have hml : (moreL va vb).length = vb.length := by simp [moreL]; omega
      generalize hmo : moreL va vb = mo at *
      repeat (first | apply Wp.seqA | apply Wp.skipS | apply Wp.blockS | ((first | apply Wp.regS | apply Wp.condV | apply Wp.reg | apply Wp.condW | apply fin_ret); simp -implicitDefEqProofs (maxSteps := 2000000) (disch := first | exact tt_rfl rfl | omega | (simp only [go_sem] <;> omega) | fail) only [go_sem, wa, wb, ll] <;> try with_reducible rfl) | apply Wp.block | apply Wp.exitS | apply Wp.retS | apply Wp.exit | apply Wp.ret | apply Wp.skip)
      apply Wp.loopF vb.length (fun i => ⟨[(4, .ptr 256 0 0), (39, .slice 2496 0 vb.length), (40, iv vb.length), (41, iv i)],
        [(256, .box [.slice 2496 0 vb.length, .slice 304097 0 vb.length, .slice 304098 0 i]), (2496, .arr 2 (va.map Span.av)), (304097, .arr 2 (vb.map Span.av)), (304098, .arr 2 ((mo.take i).map Span.av))], [], 10000000⟩) (fun _ => True)
      · simp -implicitDefEqProofs (maxSteps := 2000000) (disch := first | exact tt_rfl rfl | omega | (simp only [go_sem] <;> omega) | fail) only [go_sem, norm_eq, Ok.some]
      · trivial
      intro i hi _
      by_cases h : i < vb.length
      · have ha : i < va.length := by omega
        have g1 := ma va[i] (List.getElem_mem ha)
        have g2 := mb vb[i] (List.getElem_mem h)
        have hm := minus_ok va[i].lo va[i].hi vb[i].lo vb[i].hi (by unfold Span.Fits; simp only; omega)
        have hlt : i = ((mo.take i).map Span.av).length := by simp; omega
        clear wa wb ma mb
        repeat (first | apply Wp.seqA | apply Wp.skipS | apply Wp.blockS | ((first | apply Wp.regS | apply Wp.condV | apply Wp.reg | apply Wp.condW | apply fin_ret); simp -implicitDefEqProofs (maxSteps := 2000000) (disch := first | exact tt_rfl rfl | omega | (simp only [go_sem] <;> omega) | fail) only [go_sem, h, Int.ofNat_lt, List.getElem?_map, List.getElem?_eq_getElem h, List.getElem?_eq_getElem ha, Option.map_some, Span.av.eq_1, hm, apR_whole _ _ _ _ _ _ _ hlt] <;> try with_reducible rfl) | apply Wp.block | apply Wp.exitS | apply Wp.retS | apply Wp.exit | apply Wp.ret | apply Wp.skip)
        apply round_next
        · simp -implicitDefEqProofs (maxSteps := 2000000) (disch := first | exact tt_rfl rfl | omega | (simp only [go_sem] <;> omega) | fail) only [go_sem, norm_eq, Ok.some]; with_reducible rfl
        refine ⟨h, ?_, trivial⟩
        subst hmo
        rw [List.take_succ_eq_append_getElem (by omega : i < (moreL va vb).length)]
        simp [moreL, Span.sub, Span.av]
      · obtain rfl : i = vb.length := by omega
        repeat (first | apply Wp.seqA | apply Wp.skipS | apply Wp.blockS | ((first | apply Wp.regS | apply Wp.condV | apply Wp.reg | apply Wp.condW | apply fin_ret); simp -implicitDefEqProofs (maxSteps := 2000000) (disch := first | exact tt_rfl rfl | omega | (simp only [go_sem] <;> omega) | fail) only [go_sem, Int.lt_irrefl, List.take_of_length_le (Nat.le_of_eq hml), hml, ll] <;> try with_reducible rfl) | apply Wp.block | apply Wp.exitS | apply Wp.retS | apply Wp.exit | apply Wp.ret | apply Wp.skip)
        simp [PairL.av]
    · repeat (first | apply Wp.seqA | apply Wp.skipS | apply Wp.blockS | ((first | apply Wp.regS | apply Wp.condV | apply Wp.reg | apply Wp.condW | apply fin_ret); simp -implicitDefEqProofs (maxSteps := 2000000) (disch := first | exact tt_rfl rfl | omega | (simp only [go_sem] <;> omega) | fail) only [go_sem, wa, wb, la, lb, h3] <;> try with_reducible rfl) | apply Wp.block | apply Wp.exitS | apply Wp.retS | apply Wp.exit | apply Wp.ret | apply Wp.skip)
      simp [pairL, h1, h2, h3, PairL.av]
end Go.Abs

