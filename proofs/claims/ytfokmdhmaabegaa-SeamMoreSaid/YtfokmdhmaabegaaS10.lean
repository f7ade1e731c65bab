/-
  Chapter 7: contracts of Run, the program's and the reference's; the statement SeamRuns returns true.
-/
import Derived.Test.YtfokmdhmaabegaaS9
set_option linter.all false
namespace Go.Abs
set_option maxRecDepth 10000
set_option maxHeartbeats 4000000

def atI (l : List Int) (i : Nat) : Int := l[i]?.getD 0
theorem atI_eq {l : List Int} {i : Nat} (h : i < l.length) : l[i]? = some (atI l i) := by simp [atI, h]
def ahT (tA tB : List Int) : Nat → Int
  | 0 => 0
  | i + 1 => ahT tA tB i + atI tA i - atI tB i
abbrev InW (w : Span) (n : Int) : Prop := w.lo ≤ n ∧ n ≤ w.hi
abbrev FitT (wa wb : List Span) (tA tB : List Int) (i : Nat) : Prop := InW (at' wa i) (atI tA i) ∧ InW (at' wb i) (atI tB i)
theorem ahT_bound {wa wb : List Span} {tA tB : List Int} (ha : Wide wa) (hb : Wide wb) : ∀ {i : Nat}, (∀ j, j < i → FitT wa wb tA tB j) → -10000 * (i : Int) ≤ ahT tA tB i ∧ ahT tA tB i ≤ 10000 * i
  | 0, _ => by simp [ahT]
  | i + 1, h => by
    have ih := ahT_bound ha hb (i := i) fun j hj => h j (by omega)
    obtain ⟨h1, h2⟩ := h i (by omega)
    have := ha i
    have := hb i
    simp only [ahT]
    omega

structure TruthA where
  a : List Int
  b : List Int
def TruthA.av (t : TruthA) : AV := .agg [.list 1 (t.a.map fun n => iv n), .list 1 (t.b.map fun n => iv n)]

/-- what Run answers -/
structure RunRes (wa wb : List Span) (ts : List Int) (t : TruthA) (n : Nat) (res : AV) : Prop where
  h4 : ¬ (t.a.length = n ∧ t.b.length = n) → res = .tuple [.own 1 [], iv 4]
  h3 : t.a.length = n → t.b.length = n → ∀ i, i < n → ¬ FitT wa wb t.a t.b i → res = .tuple [.own 1 [], iv 3]
  h9 : t.a.length = n → t.b.length = n → (∀ i, i < n → FitT wa wb t.a t.b i) → ∀ i : Nat, i ≤ n → (i : Int) ∈ ts → ahT t.a t.b i ≠ 0 → res = .tuple [.own 1 [], iv 9]
  h0 : t.a.length = n → t.b.length = n → (∀ i, i < n → FitT wa wb t.a t.b i) → (∀ i : Nat, i ≤ n → (i : Int) ∈ ts → ahT t.a t.b i = 0) → res = .tuple [.own 1 (((List.range (n + 1)).map (ahT t.a t.b)).map fun n => iv n), iv 0]

theorem refRun_ok (a b : List Part) (ts : List Int) (t : TruthA) (hts : ts.length ≤ 1000) (ha : checkL a = 0) (hb : checkL b = 0) (hab : picksL a = picksL b) (res : AV) (hr : RunRes (widthsL a) (widthsL b) ts t (widthsL a).length res) :
    lim F 38 [.list 3 (a.map Part.av), .list 3 (b.map Part.av), .list 1 (ts.map fun n => iv n), t.av] = some (res, []) := by
  obtain ⟨a1, a2, a3⟩ := checkL_zero ha
  obtain ⟨b1, b2, b3⟩ := checkL_zero hb
  have hp := Picks_ok a a1 a2
  have na := widths_length a2
  have nb := widths_length b2
  have hWa := Width_ok a a1 a2
  have hWb := Width_ok b b1 b2
  have wda := wide_of a2
  have wdb := wide_of b2
  have hlen : (widthsL b).length = (widthsL a).length := by omega
  have hn : (widthsL a).length ≤ 200 := by omega
  rw [← na] at hp hWa
  rw [← nb] at hWb
  have hM := fun n => Marked_ok ts n (by omega)
  generalize widthsL a = wa at *
  generalize widthsL b = wb at *
  generalize hnn : wa.length = n at *
  clear a1 a2 a3 b1 b2 b3 na nb ha hb hab
  obtain ⟨tA, tB⟩ := t
  obtain ⟨h4, h3, h9, h0⟩ := hr
  simp only [TruthA.av] at *
  by_cases c1 : tA.length = n
  · by_cases c2 : tB.length = n
    · have h3 := h3 c1 c2
      have h9 := h9 c1 c2
      have h0 := h0 c1 c2
      clear h4
      refine lim_by (fn := a38) (k := 4) (res := [.tmp 8, .tmp 9]) rfl rfl rfl (by simp -implicitDefEqProofs (maxSteps := 2000000) (disch := first | exact tt_rfl rfl | omega | (simp only [go_sem] <;> omega) | fail) only [go_sem]) ?_
      simp -implicitDefEqProofs (maxSteps := 2000000) (disch := first | exact tt_rfl rfl | omega | (simp only [go_sem] <;> omega) | fail) only [go_sem]
      repeat (first | apply Wp.seqA | apply Wp.skipS | apply Wp.blockS | ((first | apply Wp.regS | apply Wp.condV | apply Wp.reg | apply Wp.condW | apply fin_ret); simp -implicitDefEqProofs (maxSteps := 2000000) (disch := first | exact tt_rfl rfl | omega | (simp only [go_sem] <;> omega) | fail) only [go_sem, hp, c1, c2] <;> try with_reducible rfl) | apply Wp.block | apply Wp.exitS | apply Wp.retS | apply Wp.exit | apply Wp.ret | apply Wp.skip)
      apply Wp.loopF n (fun i => ⟨[(0, .list 3 (a.map Part.av)), (1, .list 3 (b.map Part.av)), (2, .list 1 (ts.map fun n => iv n)), (7, .ptr 448 0 0), (10, iv n), (11, .slice 704 0 (i + 1)), (12, iv i)],
        [(448, .box [.list 1 (tA.map fun n => iv n), .list 1 (tB.map fun n => iv n)]), (704, .arr 1 (((List.range (i + 1)).map (ahT tA tB)).map fun n => iv n))], [], 1000000⟩) (fun i => ∀ j, j < i → FitT wa wb tA tB j)
      · simp -implicitDefEqProofs (maxSteps := 2000000) (disch := first | exact tt_rfl rfl | omega | (simp only [go_sem] <;> omega) | fail) only [go_sem, norm_eq, Ok.some]
        simp [ahT]
      · intro j hj; omega
      intro i hi hfit
      by_cases h : i < n
      · have wa' := hWa i (by omega) (at' wa i) (at'_eq (by omega))
        have wb' := hWb i (by omega) (at' wb i) (at'_eq (by omega))
        have hbd := ahT_bound wda wdb hfit
        have xa : tA[i]? = some (atI tA i) := atI_eq (by omega)
        have xb : tB[i]? = some (atI tB i) := atI_eq (by omega)
        have xc : ((List.range (i + 1)).map (ahT tA tB))[i]? = some (ahT tA tB i) := by simp
        have i1 := In_ok (atI tA i) (at' wa i).lo (at' wa i).hi
        have i2 := In_ok (atI tB i) (at' wb i).lo (at' wb i).hi
        have q1 := wda i
        have q2 := wdb i
        have hilt : (i : Int) < n := by omega
        clear hWa hWb hM h9 h0 hp
        by_cases f1 : InW (at' wa i) (atI tA i)
        · rw [decide_eq_true f1] at i1
          by_cases f2 : InW (at' wb i) (atI tB i)
          · rw [decide_eq_true f2] at i2
            obtain ⟨f11, f12⟩ := f1
            obtain ⟨f21, f22⟩ := f2
            repeat (first | apply Wp.seqA | apply Wp.skipS | apply Wp.blockS | ((first | apply Wp.regS | apply Wp.condV | apply Wp.reg | apply Wp.condW | apply fin_ret); simp -implicitDefEqProofs (maxSteps := 2000000) (disch := first | exact tt_rfl rfl | omega | (simp only [go_sem] <;> omega) | fail) only [go_sem, hilt, wa', wb', List.getElem?_map, xa, xb, xc, Option.map_some, i1, i2] <;> try with_reducible rfl) | apply Wp.block | apply Wp.exitS | apply Wp.retS | apply Wp.exit | apply Wp.ret | apply Wp.skip)
            apply round_next
            · simp -implicitDefEqProofs (maxSteps := 2000000) (disch := first | exact tt_rfl rfl | omega | (simp only [go_sem] <;> omega) | fail) only [go_sem, norm_eq, Ok.some]; with_reducible rfl
            refine ⟨h, ?_, fun j hj => ?_⟩
            · rw [List.range_succ (n := i + 1)]
              simp [ahT]
            · by_cases e : j = i
              · subst e; exact ⟨⟨f11, f12⟩, ⟨f21, f22⟩⟩
              · exact hfit j (by omega)
          · rw [decide_eq_false f2] at i2
            rw [h3 i h fun hh => f2 hh.2]
            repeat (first | apply Wp.seqA | apply Wp.skipS | apply Wp.blockS | ((first | apply Wp.regS | apply Wp.condV | apply Wp.reg | apply Wp.condW | apply fin_ret); simp -implicitDefEqProofs (maxSteps := 2000000) (disch := first | exact tt_rfl rfl | omega | (simp only [go_sem] <;> omega) | fail) only [go_sem, hilt, wa', wb', List.getElem?_map, xa, xb, xc, Option.map_some, i1, i2] <;> try with_reducible rfl) | apply Wp.block | apply Wp.exitS | apply Wp.retS | apply Wp.exit | apply Wp.ret | apply Wp.skip)
        · rw [decide_eq_false f1] at i1
          rw [h3 i h fun hh => f1 hh.1]
          repeat (first | apply Wp.seqA | apply Wp.skipS | apply Wp.blockS | ((first | apply Wp.regS | apply Wp.condV | apply Wp.reg | apply Wp.condW | apply fin_ret); simp -implicitDefEqProofs (maxSteps := 2000000) (disch := first | exact tt_rfl rfl | omega | (simp only [go_sem] <;> omega) | fail) only [go_sem, hilt, wa', wb', List.getElem?_map, xa, xb, xc, Option.map_some, i1, i2] <;> try with_reducible rfl) | apply Wp.block | apply Wp.exitS | apply Wp.retS | apply Wp.exit | apply Wp.ret | apply Wp.skip)
      · obtain rfl : i = n := by omega
        have h9 := h9 hfit
        have h0 := h0 hfit
        clear hWa hWb h3 hp
        repeat (first | apply Wp.seqA | apply Wp.skipS | apply Wp.blockS | ((first | apply Wp.regS | apply Wp.condV | apply Wp.reg | apply Wp.condW | apply fin_ret); simp -implicitDefEqProofs (maxSteps := 2000000) (disch := first | exact tt_rfl rfl | omega | (simp only [go_sem] <;> omega) | fail) only [go_sem, Int.lt_irrefl] <;> try with_reducible rfl) | apply Wp.block | apply Wp.exitS | apply Wp.retS | apply Wp.exit | apply Wp.ret | apply Wp.skip)
        apply Wp.loopF (i + 1) (fun k => ⟨[(2, .list 1 (ts.map fun n => iv n)), (10, iv i), (11, .slice 704 0 (i + 1)), (15, iv k)], [(704, .arr 1 (((List.range (i + 1)).map (ahT tA tB)).map fun n => iv n))], [], 1000000⟩) (fun k => ∀ j : Nat, j < k → (j : Int) ∈ ts → ahT tA tB j = 0)
        · simp -implicitDefEqProofs (maxSteps := 2000000) (disch := first | exact tt_rfl rfl | omega | (simp only [go_sem] <;> omega) | fail) only [go_sem, norm_eq, Ok.some]
        · intro j hj; omega
        intro k hk hz
        have hm := hM k
        by_cases hk2 : k ≤ i
        · have hkI : (k : Int) ≤ i := by omega
          have xc : ((List.range (i + 1)).map (ahT tA tB))[k]? = some (ahT tA tB k) := by simp [show k < i + 1 by omega]
          by_cases m : (k : Int) ∈ ts
          · rw [decide_eq_true m] at hm
            by_cases z : ahT tA tB k = 0
            · rw [z] at xc
              repeat (first | apply Wp.seqA | apply Wp.skipS | apply Wp.blockS | ((first | apply Wp.regS | apply Wp.condV | apply Wp.reg | apply Wp.condW | apply fin_ret); simp -implicitDefEqProofs (maxSteps := 2000000) (disch := first | exact tt_rfl rfl | omega | (simp only [go_sem] <;> omega) | fail) only [go_sem, hkI, hm, List.getElem?_map, xc, Option.map_some] <;> try with_reducible rfl) | apply Wp.block | apply Wp.exitS | apply Wp.retS | apply Wp.exit | apply Wp.ret | apply Wp.skip)
              apply round_next
              · simp -implicitDefEqProofs (maxSteps := 2000000) (disch := first | exact tt_rfl rfl | omega | (simp only [go_sem] <;> omega) | fail) only [go_sem, norm_eq, Ok.some]; with_reducible rfl
              refine ⟨by omega, by simp, fun j hj hjm => ?_⟩
              by_cases e : j = k
              · subst e; exact z
              · exact hz j (by omega) hjm
            · rw [h9 k hk2 m z]
              repeat (first | apply Wp.seqA | apply Wp.skipS | apply Wp.blockS | ((first | apply Wp.regS | apply Wp.condV | apply Wp.reg | apply Wp.condW | apply fin_ret); simp -implicitDefEqProofs (maxSteps := 2000000) (disch := first | exact tt_rfl rfl | omega | (simp only [go_sem] <;> omega) | fail) only [go_sem, hkI, hm, List.getElem?_map, xc, Option.map_some, z] <;> try with_reducible rfl) | apply Wp.block | apply Wp.exitS | apply Wp.retS | apply Wp.exit | apply Wp.ret | apply Wp.skip)
          · rw [decide_eq_false m] at hm
            repeat (first | apply Wp.seqA | apply Wp.skipS | apply Wp.blockS | ((first | apply Wp.regS | apply Wp.condV | apply Wp.reg | apply Wp.condW | apply fin_ret); simp -implicitDefEqProofs (maxSteps := 2000000) (disch := first | exact tt_rfl rfl | omega | (simp only [go_sem] <;> omega) | fail) only [go_sem, hkI, hm] <;> try with_reducible rfl) | apply Wp.block | apply Wp.exitS | apply Wp.retS | apply Wp.exit | apply Wp.ret | apply Wp.skip)
            apply round_next
            · simp -implicitDefEqProofs (maxSteps := 2000000) (disch := first | exact tt_rfl rfl | omega | (simp only [go_sem] <;> omega) | fail) only [go_sem, norm_eq, Ok.some]; with_reducible rfl
            refine ⟨by omega, by simp, fun j hj hjm => ?_⟩
            by_cases e : j = k
            · subst e; exact absurd hjm m
            · exact hz j (by omega) hjm
        · obtain rfl : k = i + 1 := by omega
          rw [h0 fun j hj hjm => hz j (by omega) hjm]
          have hkI : ¬ ((i + 1 : Nat) : Int) ≤ i := by omega
          repeat (first | apply Wp.seqA | apply Wp.skipS | apply Wp.blockS | ((first | apply Wp.regS | apply Wp.condV | apply Wp.reg | apply Wp.condW | apply fin_ret); simp -implicitDefEqProofs (maxSteps := 2000000) (disch := first | exact tt_rfl rfl | omega | (simp only [go_sem] <;> omega) | fail) only [go_sem, hkI] <;> try with_reducible rfl) | apply Wp.block | apply Wp.exitS | apply Wp.retS | apply Wp.exit | apply Wp.ret | apply Wp.skip)
    · rw [h4 (by simp [c2])]
      have e2 : ¬ (tB.length : Int) = n := by omega
      refine lim_by (fn := a38) (k := 4) (res := [.tmp 8, .tmp 9]) rfl rfl rfl (by simp -implicitDefEqProofs (maxSteps := 2000000) (disch := first | exact tt_rfl rfl | omega | (simp only [go_sem] <;> omega) | fail) only [go_sem]) ?_
      simp -implicitDefEqProofs (maxSteps := 2000000) (disch := first | exact tt_rfl rfl | omega | (simp only [go_sem] <;> omega) | fail) only [go_sem]
      repeat (first | apply Wp.seqA | apply Wp.skipS | apply Wp.blockS | ((first | apply Wp.regS | apply Wp.condV | apply Wp.reg | apply Wp.condW | apply fin_ret); simp -implicitDefEqProofs (maxSteps := 2000000) (disch := first | exact tt_rfl rfl | omega | (simp only [go_sem] <;> omega) | fail) only [go_sem, hp, c1, e2] <;> try with_reducible rfl) | apply Wp.block | apply Wp.exitS | apply Wp.retS | apply Wp.exit | apply Wp.ret | apply Wp.skip)
  · rw [h4 (by simp [c1])]
    have e1 : ¬ (tA.length : Int) = n := by omega
    refine lim_by (fn := a38) (k := 4) (res := [.tmp 8, .tmp 9]) rfl rfl rfl (by simp -implicitDefEqProofs (maxSteps := 2000000) (disch := first | exact tt_rfl rfl | omega | (simp only [go_sem] <;> omega) | fail) only [go_sem]) ?_
    simp -implicitDefEqProofs (maxSteps := 2000000) (disch := first | exact tt_rfl rfl | omega | (simp only [go_sem] <;> omega) | fail) only [go_sem]
    repeat (first | apply Wp.seqA | apply Wp.skipS | apply Wp.blockS | ((first | apply Wp.regS | apply Wp.condV | apply Wp.reg | apply Wp.condW | apply fin_ret); simp -implicitDefEqProofs (maxSteps := 2000000) (disch := first | exact tt_rfl rfl | omega | (simp only [go_sem] <;> omega) | fail) only [go_sem, hp, e1] <;> try with_reducible rfl) | apply Wp.block | apply Wp.exitS | apply Wp.retS | apply Wp.exit | apply Wp.ret | apply Wp.skip)
end Go.Abs
