/-
  Chapter 7, cutting: the errors of lengths that are cut, copies, comparisons.
-/
import Derived.Test.YtfokmdhmaabegaaS2
import Derived.Test.YtfokmdhmaabegaaWpE
set_option linter.all false
namespace Go.Abs
set_option maxRecDepth 10000
set_option maxHeartbeats 1000000

@[go_sem] theorem kast0 : ((0 : Nat) : Int) = 0 := id rfl
@[go_sem] theorem kast1 : ((1 : Nat) : Int) = 1 := id rfl

@[go_sem] theorem take_lenM {α β : Type} (f : α → β) (l : List α) : List.take l.length (List.map f l) = List.map f l := List.take_of_length_le (by simp)

structure Cut where
  b : Int
  p : Int
def Cut.av (c : Cut) : AV := .agg [iv c.b, iv c.p]
@[go_sem] theorem cut_plain (l : List Cut) : (l.map Cut.av).all AV.plain = true := by
  simp [Cut.av, AV.plain, AV.plain1]

abbrev CutBad (r : Int) (c : Cut) : Prop := ¬ (1 ≤ c.p ∧ c.p ≤ 200) ∨ ¬ (0 ≤ c.b ∧ c.b ≤ r - 1)
open Classical in
/-- the error of a repeat, bad picks, and lengths -/
noncomputable def cutsE (r : Int) (bad : List Int) (l : List Cut) : Int :=
  if ¬ (1 ≤ r ∧ r ≤ 100) then 3 else if 40 < bad.length ∨ 8 < l.length then 5 else if (bad.all fun n => decide (0 ≤ n ∧ n ≤ 100000)) = false then 2
  else if (l.any fun c => decide (CutBad r c)) = true then 2 else if ∃ i : Nat, i + 1 < bad.length ∧ bad[i + 1]?.getD 0 ≤ bad[i]?.getD 0 then 6 else 0

structure CutsOk (r : Int) (bad : List Int) (l : List Cut) : Prop where
  rr : 1 ≤ r ∧ r ≤ 100
  lb : bad.length ≤ 40
  ll : l.length ≤ 8
  bb : ∀ b ∈ bad, 0 ≤ b ∧ b ≤ 100000
  cc : ∀ c ∈ l, (1 ≤ c.p ∧ c.p ≤ 200) ∧ (0 ≤ c.b ∧ c.b ≤ r - 1)
theorem cutsE_zero {r : Int} {bad : List Int} {l : List Cut} (h : cutsE r bad l = 0) : CutsOk r bad l := by
  unfold cutsE at h
  by_cases h1 : 1 ≤ r ∧ r ≤ 100
  · rw [if_neg (by simp [h1])] at h
    by_cases h2 : 40 < bad.length ∨ 8 < l.length
    · rw [if_pos h2] at h; omega
    · rw [if_neg h2] at h
      by_cases h3 : (bad.all fun n => decide (0 ≤ n ∧ n ≤ 100000)) = false
      · rw [if_pos h3] at h; omega
      · rw [if_neg h3] at h
        by_cases h4 : (l.any fun c => decide (CutBad r c)) = true
        · rw [if_pos h4] at h; omega
        · refine ⟨h1, by omega, by omega, fun b hb => ?_, fun c hc => ?_⟩
          · rw [Bool.not_eq_false, List.all_eq_true] at h3
            exact of_decide_eq_true (h3 b hb)
          · rw [Bool.not_eq_true, List.any_eq_false] at h4
            have := h4 c hc
            simp only [decide_eq_true_eq, CutBad] at this
            omega
  · rw [if_pos h1] at h; omega

theorem cuts_ok (l : List Cut) (hl : l.length < 1000000000) : lim F 41 [.list 2 (l.map Cut.av)] = some (.own 2 (l.map Cut.av), []) := by
  refine lim_by (fn := a41) (k := 1) (res := [.tmp 2]) rfl rfl rfl (by simp -implicitDefEqProofs (maxSteps := 2000000) (disch := first | exact tt_rfl rfl | omega | (simp only [go_sem] <;> omega) | fail) only [go_sem]) ?_
  simp -implicitDefEqProofs (maxSteps := 2000000) (disch := first | exact tt_rfl rfl | omega | (simp only [go_sem] <;> omega) | fail) only [go_sem]
  repeat (first | apply Wp.seqA | apply Wp.skipS | apply Wp.blockS | ((first | apply Wp.regS | apply Wp.condV | apply Wp.reg | apply Wp.condW | apply fin_ret); simp -implicitDefEqProofs (maxSteps := 2000000) (disch := first | exact tt_rfl rfl | omega | (simp only [go_sem] <;> omega) | fail) only [go_sem] <;> try with_reducible rfl) | apply Wp.block | apply Wp.exitS | apply Wp.retS | apply Wp.exit | apply Wp.ret | apply Wp.skip)

theorem like_ok (l : List Cut) (hl : l.length < 1000000000) : lim F 43 [.list 2 (l.map Cut.av), .list 2 (l.map Cut.av)] = some (.bool true, []) := by
  refine lim_by (fn := a43) (k := 2) (res := [.tmp 4]) rfl rfl rfl (by simp -implicitDefEqProofs (maxSteps := 2000000) (disch := first | exact tt_rfl rfl | omega | (simp only [go_sem] <;> omega) | fail) only [go_sem]) ?_
  simp -implicitDefEqProofs (maxSteps := 2000000) (disch := first | exact tt_rfl rfl | omega | (simp only [go_sem] <;> omega) | fail) only [go_sem]
  repeat (first | apply Wp.seqA | apply Wp.skipS | apply Wp.blockS | ((first | apply Wp.regS | apply Wp.condV | apply Wp.reg | apply Wp.condW | apply fin_ret); simp -implicitDefEqProofs (maxSteps := 2000000) (disch := first | exact tt_rfl rfl | omega | (simp only [go_sem] <;> omega) | fail) only [go_sem] <;> try with_reducible rfl) | apply Wp.block | apply Wp.exitS | apply Wp.retS | apply Wp.exit | apply Wp.ret | apply Wp.skip)
  apply Wp.loopF l.length (fun i => ⟨[(0, .list 2 (l.map Cut.av)), (1, .list 2 (l.map Cut.av)), (5, iv i)], [], [], 1000000⟩) (fun _ => True)
  · simp -implicitDefEqProofs (maxSteps := 2000000) (disch := first | exact tt_rfl rfl | omega | (simp only [go_sem] <;> omega) | fail) only [go_sem, norm_eq, Ok.some]
    try rfl
  · trivial
  intro i hi hn
  by_cases h : i < l.length
  · repeat (first | apply Wp.seqA | apply Wp.skipS | apply Wp.blockS | ((first | apply Wp.regS | apply Wp.condV | apply Wp.reg | apply Wp.condW | apply fin_ret); simp -implicitDefEqProofs (maxSteps := 2000000) (disch := first | exact tt_rfl rfl | omega | (simp only [go_sem] <;> omega) | fail) only [go_sem, h, Int.ofNat_lt, List.getElem?_map, List.getElem?_eq_getElem h, Option.map_some, Cut.av.eq_1, bne_self_eq_false] <;> try with_reducible rfl) | apply Wp.block | apply Wp.exitS | apply Wp.retS | apply Wp.exit | apply Wp.ret | apply Wp.skip)
    apply round_next
    · simp -implicitDefEqProofs (maxSteps := 2000000) (disch := first | exact tt_rfl rfl | omega | (simp only [go_sem] <;> omega) | fail) only [go_sem, norm_eq, Ok.some]; with_reducible rfl
    exact ⟨h, by simp, trivial⟩
  · obtain rfl : i = l.length := by omega
    repeat (first | apply Wp.seqA | apply Wp.skipS | apply Wp.blockS | ((first | apply Wp.regS | apply Wp.condV | apply Wp.reg | apply Wp.condW | apply fin_ret); simp -implicitDefEqProofs (maxSteps := 2000000) (disch := first | exact tt_rfl rfl | omega | (simp only [go_sem] <;> omega) | fail) only [go_sem, Int.lt_irrefl] <;> try with_reducible rfl) | apply Wp.block | apply Wp.exitS | apply Wp.retS | apply Wp.exit | apply Wp.ret | apply Wp.skip)

theorem refCuts_ok (r : Int) (bad : List Int) (l : List Cut) : lim F 39 [iv r, .list 1 (bad.map fun n => iv n), .list 2 (l.map Cut.av)] = some (iv (cutsE r bad l), []) := by
  unfold cutsE
  have i1 := In_ok r 1 100
  by_cases h1 : 1 ≤ r ∧ r ≤ 100
  · rw [decide_eq_true h1] at i1
    by_cases h2 : 40 < bad.length ∨ 8 < l.length
    · by_cases h3 : 40 < bad.length
      · refine lim_by (fn := a39) (k := 3) (res := [.tmp 6]) rfl rfl rfl (by simp -implicitDefEqProofs (maxSteps := 2000000) (disch := first | exact tt_rfl rfl | omega | (simp only [go_sem] <;> omega) | fail) only [go_sem]) ?_
        simp -implicitDefEqProofs (maxSteps := 2000000) (disch := first | exact tt_rfl rfl | omega | (simp only [go_sem] <;> omega) | fail) only [go_sem]
        repeat (first | apply Wp.seqA | apply Wp.skipS | apply Wp.blockS | ((first | apply Wp.regS | apply Wp.condV | apply Wp.reg | apply Wp.condW | apply fin_ret); simp -implicitDefEqProofs (maxSteps := 2000000) (disch := first | exact tt_rfl rfl | omega | (simp only [go_sem] <;> omega) | fail) only [go_sem, i1, show (40 : Int) < bad.length by omega] <;> try with_reducible rfl) | apply Wp.block | apply Wp.exitS | apply Wp.retS | apply Wp.exit | apply Wp.ret | apply Wp.skip)
        simp [h1, h2]
      · refine lim_by (fn := a39) (k := 3) (res := [.tmp 6]) rfl rfl rfl (by simp -implicitDefEqProofs (maxSteps := 2000000) (disch := first | exact tt_rfl rfl | omega | (simp only [go_sem] <;> omega) | fail) only [go_sem]) ?_
        simp -implicitDefEqProofs (maxSteps := 2000000) (disch := first | exact tt_rfl rfl | omega | (simp only [go_sem] <;> omega) | fail) only [go_sem]
        repeat (first | apply Wp.seqA | apply Wp.skipS | apply Wp.blockS | ((first | apply Wp.regS | apply Wp.condV | apply Wp.reg | apply Wp.condW | apply fin_ret); simp -implicitDefEqProofs (maxSteps := 2000000) (disch := first | exact tt_rfl rfl | omega | (simp only [go_sem] <;> omega) | fail) only [go_sem, i1, show ¬ (40 : Int) < bad.length by omega, show (8 : Int) < l.length by omega] <;> try with_reducible rfl) | apply Wp.block | apply Wp.exitS | apply Wp.retS | apply Wp.exit | apply Wp.ret | apply Wp.skip)
        simp [h1, h2]
    · have k1 : ¬ (40 : Int) < bad.length := by omega
      have k2 : ¬ (8 : Int) < l.length := by omega
      rw [if_neg (by simp [h1]), if_neg h2]
      have hb40 : bad.length ≤ 40 := by omega
      have hl8 : l.length ≤ 8 := by omega
      clear h2
      refine lim_by (fn := a39) (k := 3) (res := [.tmp 6]) rfl rfl rfl (by simp -implicitDefEqProofs (maxSteps := 2000000) (disch := first | exact tt_rfl rfl | omega | (simp only [go_sem] <;> omega) | fail) only [go_sem]) ?_
      simp -implicitDefEqProofs (maxSteps := 2000000) (disch := first | exact tt_rfl rfl | omega | (simp only [go_sem] <;> omega) | fail) only [go_sem]
      repeat (first | apply Wp.seqA | apply Wp.skipS | apply Wp.blockS | ((first | apply Wp.regS | apply Wp.condV | apply Wp.reg | apply Wp.condW | apply fin_ret); simp -implicitDefEqProofs (maxSteps := 2000000) (disch := first | exact tt_rfl rfl | omega | (simp only [go_sem] <;> omega) | fail) only [go_sem, i1, k1, k2] <;> try with_reducible rfl) | apply Wp.block | apply Wp.exitS | apply Wp.retS | apply Wp.exit | apply Wp.ret | apply Wp.skip)
      apply Wp.loopF bad.length (fun i => ⟨[(0, iv r), (1, .list 1 (bad.map fun n => iv n)), (2, .list 2 (l.map Cut.av)), (7, iv i)], [], [], 1000000⟩) (fun i => ∀ j (hj : j < bad.length), j < i → 0 ≤ bad[j] ∧ bad[j] ≤ 100000)
      · simp -implicitDefEqProofs (maxSteps := 2000000) (disch := first | exact tt_rfl rfl | omega | (simp only [go_sem] <;> omega) | fail) only [go_sem, norm_eq, Ok.some]
        try rfl
      · intro j hj h; omega
      intro i hi hok
      by_cases h : i < bad.length
      · have i2 := In_ok bad[i] 0 100000
        by_cases q : 0 ≤ bad[i] ∧ bad[i] ≤ 100000
        · rw [decide_eq_true q] at i2
          repeat (first | apply Wp.seqA | apply Wp.skipS | apply Wp.blockS | ((first | apply Wp.regS | apply Wp.condV | apply Wp.reg | apply Wp.condW | apply fin_ret); simp -implicitDefEqProofs (maxSteps := 2000000) (disch := first | exact tt_rfl rfl | omega | (simp only [go_sem] <;> omega) | fail) only [go_sem, h, Int.ofNat_lt, List.getElem?_map, List.getElem?_eq_getElem h, Option.map_some, i2] <;> try with_reducible rfl) | apply Wp.block | apply Wp.exitS | apply Wp.retS | apply Wp.exit | apply Wp.ret | apply Wp.skip)
          apply round_next
          · simp -implicitDefEqProofs (maxSteps := 2000000) (disch := first | exact tt_rfl rfl | omega | (simp only [go_sem] <;> omega) | fail) only [go_sem, norm_eq, Ok.some]; with_reducible rfl
          refine ⟨h, by simp, fun j hj hji => ?_⟩
          by_cases e : j = i
          · subst e; exact q
          · exact hok j hj (by omega)
        · rw [decide_eq_false q] at i2
          have : (bad.all fun n => decide (0 ≤ n ∧ n ≤ 100000)) = false := by
            rw [List.all_eq_false]; exact ⟨bad[i], List.getElem_mem h, by simpa using q⟩
          rw [if_pos this]
          repeat (first | apply Wp.seqA | apply Wp.skipS | apply Wp.blockS | ((first | apply Wp.regS | apply Wp.condV | apply Wp.reg | apply Wp.condW | apply fin_ret); simp -implicitDefEqProofs (maxSteps := 2000000) (disch := first | exact tt_rfl rfl | omega | (simp only [go_sem] <;> omega) | fail) only [go_sem, h, Int.ofNat_lt, List.getElem?_map, List.getElem?_eq_getElem h, Option.map_some, i2] <;> try with_reducible rfl) | apply Wp.block | apply Wp.exitS | apply Wp.retS | apply Wp.exit | apply Wp.ret | apply Wp.skip)
      · obtain rfl : i = bad.length := by omega
        have : ¬ (bad.all fun n => decide (0 ≤ n ∧ n ≤ 100000)) = false := by
          rw [Bool.not_eq_false, List.all_eq_true]
          intro b hb
          obtain ⟨j, hj, rfl⟩ := List.getElem_of_mem hb
          exact decide_eq_true (hok j hj hj)
        rw [if_neg this]
        repeat (first | apply Wp.seqA | apply Wp.skipS | apply Wp.blockS | ((first | apply Wp.regS | apply Wp.condV | apply Wp.reg | apply Wp.condW | apply fin_ret); simp -implicitDefEqProofs (maxSteps := 2000000) (disch := first | exact tt_rfl rfl | omega | (simp only [go_sem] <;> omega) | fail) only [go_sem, Int.lt_irrefl] <;> try with_reducible rfl) | apply Wp.block | apply Wp.exitS | apply Wp.retS | apply Wp.exit | apply Wp.ret | apply Wp.skip)
        apply Wp.loopF l.length (fun i => ⟨[(0, iv r), (1, .list 1 (bad.map fun n => iv n)), (2, .list 2 (l.map Cut.av)), (8, iv i)], [], [], 1000000⟩) (fun i => ∀ j (hj : j < l.length), j < i → ¬ CutBad r l[j])
        · simp -implicitDefEqProofs (maxSteps := 2000000) (disch := first | exact tt_rfl rfl | omega | (simp only [go_sem] <;> omega) | fail) only [go_sem, norm_eq, Ok.some]
          try rfl
        · intro j hj h; omega
        intro i hi hok
        by_cases h : i < l.length
        · have i2 := In_ok l[i].p 1 200
          have i3 := In_ok l[i].b 0 (r - 1)
          by_cases q1 : 1 ≤ l[i].p ∧ l[i].p ≤ 200
          · rw [decide_eq_true q1] at i2
            by_cases q2 : 0 ≤ l[i].b ∧ l[i].b ≤ r - 1
            · rw [decide_eq_true q2] at i3
              repeat (first | apply Wp.seqA | apply Wp.skipS | apply Wp.blockS | ((first | apply Wp.regS | apply Wp.condV | apply Wp.reg | apply Wp.condW | apply fin_ret); simp -implicitDefEqProofs (maxSteps := 2000000) (disch := first | exact tt_rfl rfl | omega | (simp only [go_sem] <;> omega) | fail) only [go_sem, h, Int.ofNat_lt, List.getElem?_map, List.getElem?_eq_getElem h, Option.map_some, Cut.av.eq_1, i2, i3] <;> try with_reducible rfl) | apply Wp.block | apply Wp.exitS | apply Wp.retS | apply Wp.exit | apply Wp.ret | apply Wp.skip)
              apply round_next
              · simp -implicitDefEqProofs (maxSteps := 2000000) (disch := first | exact tt_rfl rfl | omega | (simp only [go_sem] <;> omega) | fail) only [go_sem, norm_eq, Ok.some]; with_reducible rfl
              refine ⟨h, by simp, fun j hj hji => ?_⟩
              by_cases e : j = i
              · subst e; exact fun hc => hc.elim (fun h => h q1) (fun h => h q2)
              · exact hok j hj (by omega)
            · rw [decide_eq_false q2] at i3
              rw [if_pos (List.any_eq_true.2 ⟨l[i], List.getElem_mem h, decide_eq_true (.inr q2)⟩)]
              repeat (first | apply Wp.seqA | apply Wp.skipS | apply Wp.blockS | ((first | apply Wp.regS | apply Wp.condV | apply Wp.reg | apply Wp.condW | apply fin_ret); simp -implicitDefEqProofs (maxSteps := 2000000) (disch := first | exact tt_rfl rfl | omega | (simp only [go_sem] <;> omega) | fail) only [go_sem, h, Int.ofNat_lt, List.getElem?_map, List.getElem?_eq_getElem h, Option.map_some, Cut.av.eq_1, i2, i3] <;> try with_reducible rfl) | apply Wp.block | apply Wp.exitS | apply Wp.retS | apply Wp.exit | apply Wp.ret | apply Wp.skip)
          · rw [decide_eq_false q1] at i2
            rw [if_pos (List.any_eq_true.2 ⟨l[i], List.getElem_mem h, decide_eq_true (.inl q1)⟩)]
            repeat (first | apply Wp.seqA | apply Wp.skipS | apply Wp.blockS | ((first | apply Wp.regS | apply Wp.condV | apply Wp.reg | apply Wp.condW | apply fin_ret); simp -implicitDefEqProofs (maxSteps := 2000000) (disch := first | exact tt_rfl rfl | omega | (simp only [go_sem] <;> omega) | fail) only [go_sem, h, Int.ofNat_lt, List.getElem?_map, List.getElem?_eq_getElem h, Option.map_some, Cut.av.eq_1, i2] <;> try with_reducible rfl) | apply Wp.block | apply Wp.exitS | apply Wp.retS | apply Wp.exit | apply Wp.ret | apply Wp.skip)
        · obtain rfl : i = l.length := by omega
          have : ¬ (l.any fun c => decide (CutBad r c)) = true := by
            rw [Bool.not_eq_true, List.any_eq_false]
            intro c hc
            obtain ⟨j, hj, rfl⟩ := List.getElem_of_mem hc
            simpa using hok j hj hj
          rw [if_neg this]
          repeat (first | apply Wp.seqA | apply Wp.skipS | apply Wp.blockS | ((first | apply Wp.regS | apply Wp.condV | apply Wp.reg | apply Wp.condW | apply fin_ret); simp -implicitDefEqProofs (maxSteps := 2000000) (disch := first | exact tt_rfl rfl | omega | (simp only [go_sem] <;> omega) | fail) only [go_sem, Int.lt_irrefl] <;> try with_reducible rfl) | apply Wp.block | apply Wp.exitS | apply Wp.retS | apply Wp.exit | apply Wp.ret | apply Wp.skip)
          apply Wp.loopF bad.length (fun i => ⟨[(1, .list 1 (bad.map fun n => iv n)), (9, iv (i + 1 : Nat))], [], [], 1000000⟩) (fun i => ∀ j, j + 1 < bad.length → j < i → ¬ bad[j + 1]?.getD 0 ≤ bad[j]?.getD 0)
          · simp -implicitDefEqProofs (maxSteps := 2000000) (disch := first | exact tt_rfl rfl | omega | (simp only [go_sem] <;> omega) | fail) only [go_sem, norm_eq, Ok.some]
            try rfl
          · intro j hj h; omega
          intro i hi hok
          by_cases h : i + 1 < bad.length
          · have x1 : bad[i + 1]? = some bad[i + 1] := List.getElem?_eq_getElem h
            have x2 : bad[i]? = some bad[i] := List.getElem?_eq_getElem (by omega)
            by_cases q : bad[i + 1] ≤ bad[i]
            · rw [if_pos ⟨i, h, by simpa [x1, x2] using q⟩]
              repeat (first | apply Wp.seqA | apply Wp.skipS | apply Wp.blockS | ((first | apply Wp.regS | apply Wp.condV | apply Wp.reg | apply Wp.condW | apply fin_ret); simp -implicitDefEqProofs (maxSteps := 2000000) (disch := first | exact tt_rfl rfl | omega | (simp only [go_sem] <;> omega) | fail) only [go_sem, show ((i + 1 : Nat) : Int) < bad.length by omega, List.getElem?_map, x1, x2, Option.map_some, q, show (((i + 1 : Nat) : Int) - 1).toNat = i by omega] <;> try with_reducible rfl) | apply Wp.block | apply Wp.exitS | apply Wp.retS | apply Wp.exit | apply Wp.ret | apply Wp.skip)
            · repeat (first | apply Wp.seqA | apply Wp.skipS | apply Wp.blockS | ((first | apply Wp.regS | apply Wp.condV | apply Wp.reg | apply Wp.condW | apply fin_ret); simp -implicitDefEqProofs (maxSteps := 2000000) (disch := first | exact tt_rfl rfl | omega | (simp only [go_sem] <;> omega) | fail) only [go_sem, show ((i + 1 : Nat) : Int) < bad.length by omega, List.getElem?_map, x1, x2, Option.map_some, q, show (((i + 1 : Nat) : Int) - 1).toNat = i by omega] <;> try with_reducible rfl) | apply Wp.block | apply Wp.exitS | apply Wp.retS | apply Wp.exit | apply Wp.ret | apply Wp.skip)
              apply round_next
              · simp -implicitDefEqProofs (maxSteps := 2000000) (disch := first | exact tt_rfl rfl | omega | (simp only [go_sem] <;> omega) | fail) only [go_sem, norm_eq, Ok.some]; with_reducible rfl
              refine ⟨by omega, by simp, fun j hj hji => ?_⟩
              by_cases e : j = i
              · subst e; simpa [x1, x2] using q
              · exact hok j hj (by omega)
          · rw [if_neg fun ⟨j, hj, hc⟩ => hok j hj (by omega) hc]
            repeat (first | apply Wp.seqA | apply Wp.skipS | apply Wp.blockS | ((first | apply Wp.regS | apply Wp.condV | apply Wp.reg | apply Wp.condW | apply fin_ret); simp -implicitDefEqProofs (maxSteps := 2000000) (disch := first | exact tt_rfl rfl | omega | (simp only [go_sem] <;> omega) | fail) only [go_sem, show ¬ ((i + 1 : Nat) : Int) < bad.length by omega] <;> try with_reducible rfl) | apply Wp.block | apply Wp.exitS | apply Wp.retS | apply Wp.exit | apply Wp.ret | apply Wp.skip)
  · rw [decide_eq_false h1] at i1
    rw [if_pos h1]
    refine lim_by (fn := a39) (k := 3) (res := [.tmp 6]) rfl rfl rfl (by simp -implicitDefEqProofs (maxSteps := 2000000) (disch := first | exact tt_rfl rfl | omega | (simp only [go_sem] <;> omega) | fail) only [go_sem]) ?_
    simp -implicitDefEqProofs (maxSteps := 2000000) (disch := first | exact tt_rfl rfl | omega | (simp only [go_sem] <;> omega) | fail) only [go_sem]
    repeat (first | apply Wp.seqA | apply Wp.skipS | apply Wp.blockS | ((first | apply Wp.regS | apply Wp.condV | apply Wp.reg | apply Wp.condW | apply fin_ret); simp -implicitDefEqProofs (maxSteps := 2000000) (disch := first | exact tt_rfl rfl | omega | (simp only [go_sem] <;> omega) | fail) only [go_sem, i1] <;> try with_reducible rfl) | apply Wp.block | apply Wp.exitS | apply Wp.retS | apply Wp.exit | apply Wp.ret | apply Wp.skip)
end Go.Abs
