/-
  Chapter 7, cutting: contracts of newTailor and of start, the program's and the reference's.
-/
import Derived.Test.YtmfbeemalfpbjaaS20
set_option linter.all false
namespace Go.Abs
set_option maxRecDepth 10000
set_option maxHeartbeats 1000000

theorem tailor1_ok (c : Cut) (r : Int) (hr : 1 ≤ r ∧ r ≤ 100) : lim F 58 [.agg [iv c.b, iv c.p], .iptr (.agg [iv r]) 0] = some (.bool (decide (CutBad r c)), []) := by
  have w1 := within_ok 1 200 [c.p] (by simp)
  have w2 := within_ok 0 (r - 1) [c.b] (by simp)
  simp only [List.map_cons, List.map_nil, List.all_cons, List.all_nil, Bool.and_true] at w1 w2
  by_cases h1 : 1 ≤ c.p ∧ c.p ≤ 200
  · by_cases h2 : 0 ≤ c.b ∧ c.b ≤ r - 1
    all_goals
      refine lim_by (fn := a58) (k := 2) (res := [.tmp 3]) rfl rfl rfl (by simp -implicitDefEqProofs (maxSteps := 2000000) (disch := first | exact tt_rfl rfl | omega | (simp only [go_sem] <;> omega) | fail) only [go_sem]) ?_
      simp -implicitDefEqProofs (maxSteps := 2000000) (disch := first | exact tt_rfl rfl | omega | (simp only [go_sem] <;> omega) | fail) only [go_sem]
      repeat (first | apply Wp.seqA | apply Wp.skipS | apply Wp.blockS | ((first | apply Wp.regS | apply Wp.condV | apply Wp.reg | apply Wp.condW | apply fin_ret); simp -implicitDefEqProofs (maxSteps := 2000000) (disch := first | exact tt_rfl rfl | omega | (simp only [go_sem] <;> omega) | fail) only [go_sem, w1, w2, h1, h2] <;> try with_reducible rfl) | apply Wp.block | apply Wp.exitS | apply Wp.retS | apply Wp.exit | apply Wp.ret | apply Wp.skip)
      simp [CutBad, h1, h2]
  · refine lim_by (fn := a58) (k := 2) (res := [.tmp 3]) rfl rfl rfl (by simp -implicitDefEqProofs (maxSteps := 2000000) (disch := first | exact tt_rfl rfl | omega | (simp only [go_sem] <;> omega) | fail) only [go_sem]) ?_
    simp -implicitDefEqProofs (maxSteps := 2000000) (disch := first | exact tt_rfl rfl | omega | (simp only [go_sem] <;> omega) | fail) only [go_sem]
    repeat (first | apply Wp.seqA | apply Wp.skipS | apply Wp.blockS | ((first | apply Wp.regS | apply Wp.condV | apply Wp.reg | apply Wp.condW | apply fin_ret); simp -implicitDefEqProofs (maxSteps := 2000000) (disch := first | exact tt_rfl rfl | omega | (simp only [go_sem] <;> omega) | fail) only [go_sem, w1, w2, h1] <;> try with_reducible rfl) | apply Wp.block | apply Wp.exitS | apply Wp.retS | apply Wp.exit | apply Wp.ret | apply Wp.skip)
    simp [CutBad, h1]

theorem index_cuts (l : List Cut) (p : Cut → Bool) (f : Nat) (x : AV) (hl : l.length < 1000000000) (hp : ∀ n ∈ l, lim F f [.agg [iv n.b, iv n.p], .iptr x 0] = some (.bool (p n), [])) :
    lim F 68 [.list 2 (l.map Cut.av), .func f [.iptr x 0]] = some (iv (idxF p l), []) := by
  refine lim_by (fn := a68) (k := 2) (res := [.tmp 4]) rfl rfl rfl (by simp -implicitDefEqProofs (maxSteps := 2000000) (disch := first | exact tt_rfl rfl | omega | (simp only [go_sem] <;> omega) | fail) only [go_sem]) ?_
  simp -implicitDefEqProofs (maxSteps := 2000000) (disch := first | exact tt_rfl rfl | omega | (simp only [go_sem] <;> omega) | fail) only [go_sem]
  repeat (first | apply Wp.seqA | apply Wp.skipS | apply Wp.blockS | ((first | apply Wp.regS | apply Wp.condV | apply Wp.reg | apply Wp.condW | apply fin_ret); simp -implicitDefEqProofs (maxSteps := 2000000) (disch := first | exact tt_rfl rfl | omega | (simp only [go_sem] <;> omega) | fail) only [go_sem] <;> try with_reducible rfl) | apply Wp.block | apply Wp.exitS | apply Wp.retS | apply Wp.exit | apply Wp.ret | apply Wp.skip)
  apply Wp.loopF l.length (fun i => ⟨[(0, .list 2 (l.map Cut.av)), (1, .func f [.iptr x 0]), (7, iv l.length), (8, iv i)], [], [], 10000000⟩) (fun i => ∀ j (hj : j < l.length), j < i → p l[j] = false)
  · simp -implicitDefEqProofs (maxSteps := 2000000) (disch := first | exact tt_rfl rfl | omega | (simp only [go_sem] <;> omega) | fail) only [go_sem, norm_eq, Ok.some]
    try rfl
  · intro j hj h; omega
  intro i hi hn
  by_cases h : i < l.length
  · have hc := hp l[i] (List.getElem_mem h)
    cases hb : p l[i] with
    | true =>
      rw [hb] at hc
      repeat (first | apply Wp.seqA | apply Wp.skipS | apply Wp.blockS | ((first | apply Wp.regS | apply Wp.condV | apply Wp.reg | apply Wp.condW | apply fin_ret); simp -implicitDefEqProofs (maxSteps := 2000000) (disch := first | exact tt_rfl rfl | omega | (simp only [go_sem] <;> omega) | fail) only [go_sem, h, List.getElem?_map, List.getElem?_eq_getElem h, Option.map_some, hc, Int.ofNat_lt, Cut.av.eq_1] <;> try with_reducible rfl) | apply Wp.block | apply Wp.exitS | apply Wp.retS | apply Wp.exit | apply Wp.ret | apply Wp.skip)
      rw [idxF_at h hb hn]
    | false =>
      rw [hb] at hc
      repeat (first | apply Wp.seqA | apply Wp.skipS | apply Wp.blockS | ((first | apply Wp.regS | apply Wp.condV | apply Wp.reg | apply Wp.condW | apply fin_ret); simp -implicitDefEqProofs (maxSteps := 2000000) (disch := first | exact tt_rfl rfl | omega | (simp only [go_sem] <;> omega) | fail) only [go_sem, h, List.getElem?_map, List.getElem?_eq_getElem h, Option.map_some, hc, Int.ofNat_lt, Cut.av.eq_1] <;> try with_reducible rfl) | apply Wp.block | apply Wp.exitS | apply Wp.retS | apply Wp.exit | apply Wp.ret | apply Wp.skip)
      apply round_next
      · simp -implicitDefEqProofs (maxSteps := 2000000) (disch := first | exact tt_rfl rfl | omega | (simp only [go_sem] <;> omega) | fail) only [go_sem, norm_eq, Ok.some]; with_reducible rfl
      refine ⟨h, by simp, fun j hj hji => ?_⟩
      by_cases e : j = i
      · subst e; exact hb
      · exact hn j hj (by omega)
  · repeat (first | apply Wp.seqA | apply Wp.skipS | apply Wp.blockS | ((first | apply Wp.regS | apply Wp.condV | apply Wp.reg | apply Wp.condW | apply fin_ret); simp -implicitDefEqProofs (maxSteps := 2000000) (disch := first | exact tt_rfl rfl | omega | (simp only [go_sem] <;> omega) | fail) only [go_sem, h, Int.ofNat_lt] <;> try with_reducible rfl) | apply Wp.block | apply Wp.exitS | apply Wp.retS | apply Wp.exit | apply Wp.ret | apply Wp.skip)
    rw [idxF_no fun j hj => hn j hj (by omega)]

theorem contains_cuts (l : List Cut) (p : Cut → Bool) (f : Nat) (x : AV) (hl : l.length < 1000000000) (hp : ∀ n ∈ l, lim F f [.agg [iv n.b, iv n.p], .iptr x 0] = some (.bool (p n), [])) :
    lim F 59 [.list 2 (l.map Cut.av), .func f [.iptr x 0]] = some (.bool (l.any p), []) := by
  have h := index_cuts l p f x hl hp
  refine lim_by (fn := a59) (k := 2) (res := [.tmp 4]) rfl rfl rfl (by simp -implicitDefEqProofs (maxSteps := 2000000) (disch := first | exact tt_rfl rfl | omega | (simp only [go_sem] <;> omega) | fail) only [go_sem]) ?_
  simp -implicitDefEqProofs (maxSteps := 2000000) (disch := first | exact tt_rfl rfl | omega | (simp only [go_sem] <;> omega) | fail) only [go_sem]
  repeat (first | apply Wp.seqA | apply Wp.skipS | apply Wp.blockS | ((first | apply Wp.regS | apply Wp.condV | apply Wp.reg | apply Wp.condW | apply fin_ret); simp -implicitDefEqProofs (maxSteps := 2000000) (disch := first | exact tt_rfl rfl | omega | (simp only [go_sem] <;> omega) | fail) only [go_sem, h, idxF_ge] <;> try with_reducible rfl) | apply Wp.block | apply Wp.exitS | apply Wp.retS | apply Wp.exit | apply Wp.ret | apply Wp.skip)

def tailorV (r : Int) (bad : List Int) (l : List Cut) : AV := .agg [iv r, .list 1 (bad.map fun n => iv n), .list 2 (l.map Cut.av)]
def tailor0 : AV := .agg [iv 0, .own 1 [], .own 2 []]

open Classical in
theorem newTailor_ok (r : Int) (bad : List Int) (l : List Cut) : lim F 31 [iv r, .list 1 (bad.map fun n => iv n), .list 2 (l.map Cut.av)] =
    some (.tuple [if cutsE r bad l = 0 then tailorV r bad l else tailor0, iv (cutsE r bad l)], []) := by
  unfold tailorV tailor0
  generalize he : cutsE r bad l = e
  unfold cutsE at he
  have w1 := within_ok 1 100 [r] (by simp)
  simp only [List.map_cons, List.map_nil, List.all_cons, List.all_nil, Bool.and_true] at w1
  by_cases h1 : 1 ≤ r ∧ r ≤ 100
  · rw [decide_eq_true h1] at w1
    rw [if_neg (by simp [h1])] at he
    by_cases h2 : 40 < bad.length ∨ 8 < l.length
    · rw [if_pos h2] at he; subst he
      by_cases h3 : 40 < bad.length
      · refine lim_by (fn := a31) (k := 3) (res := [.cell 6 3 true, .tmp 7]) rfl rfl rfl (by simp -implicitDefEqProofs (maxSteps := 2000000) (disch := first | exact tt_rfl rfl | omega | (simp only [go_sem] <;> omega) | fail) only [go_sem]) ?_
        simp -implicitDefEqProofs (maxSteps := 2000000) (disch := first | exact tt_rfl rfl | omega | (simp only [go_sem] <;> omega) | fail) only [go_sem]
        repeat (first | apply Wp.seqA | apply Wp.skipS | apply Wp.blockS | ((first | apply Wp.regS | apply Wp.condV | apply Wp.reg | apply Wp.condW | apply fin_ret); simp -implicitDefEqProofs (maxSteps := 2000000) (disch := first | exact tt_rfl rfl | omega | (simp only [go_sem] <;> omega) | fail) only [go_sem, w1, show (40 : Int) < bad.length by omega] <;> try with_reducible rfl) | apply Wp.block | apply Wp.exitS | apply Wp.retS | apply Wp.exit | apply Wp.ret | apply Wp.skip)
        try rfl
      · refine lim_by (fn := a31) (k := 3) (res := [.cell 6 3 true, .tmp 7]) rfl rfl rfl (by simp -implicitDefEqProofs (maxSteps := 2000000) (disch := first | exact tt_rfl rfl | omega | (simp only [go_sem] <;> omega) | fail) only [go_sem]) ?_
        simp -implicitDefEqProofs (maxSteps := 2000000) (disch := first | exact tt_rfl rfl | omega | (simp only [go_sem] <;> omega) | fail) only [go_sem]
        repeat (first | apply Wp.seqA | apply Wp.skipS | apply Wp.blockS | ((first | apply Wp.regS | apply Wp.condV | apply Wp.reg | apply Wp.condW | apply fin_ret); simp -implicitDefEqProofs (maxSteps := 2000000) (disch := first | exact tt_rfl rfl | omega | (simp only [go_sem] <;> omega) | fail) only [go_sem, w1, show ¬ (40 : Int) < bad.length by omega, show (8 : Int) < l.length by omega] <;> try with_reducible rfl) | apply Wp.block | apply Wp.exitS | apply Wp.retS | apply Wp.exit | apply Wp.ret | apply Wp.skip)
        try rfl
    · have k1 : ¬ (40 : Int) < bad.length := by omega
      have k2 : ¬ (8 : Int) < l.length := by omega
      rw [if_neg h2] at he
      have hb40 : bad.length ≤ 40 := by omega
      have hl8 : l.length ≤ 8 := by omega
      clear h2
      have w2 := within_ok 0 100000 bad (by omega)
      by_cases h3 : (bad.all fun n => decide (0 ≤ n ∧ n ≤ 100000)) = false
      · rw [if_pos h3] at he; subst he
        rw [h3] at w2
        refine lim_by (fn := a31) (k := 3) (res := [.cell 6 3 true, .tmp 7]) rfl rfl rfl (by simp -implicitDefEqProofs (maxSteps := 2000000) (disch := first | exact tt_rfl rfl | omega | (simp only [go_sem] <;> omega) | fail) only [go_sem]) ?_
        simp -implicitDefEqProofs (maxSteps := 2000000) (disch := first | exact tt_rfl rfl | omega | (simp only [go_sem] <;> omega) | fail) only [go_sem]
        repeat (first | apply Wp.seqA | apply Wp.skipS | apply Wp.blockS | ((first | apply Wp.regS | apply Wp.condV | apply Wp.reg | apply Wp.condW | apply fin_ret); simp -implicitDefEqProofs (maxSteps := 2000000) (disch := first | exact tt_rfl rfl | omega | (simp only [go_sem] <;> omega) | fail) only [go_sem, w1, k1, k2, w2] <;> try with_reducible rfl) | apply Wp.block | apply Wp.exitS | apply Wp.retS | apply Wp.exit | apply Wp.ret | apply Wp.skip)
        try rfl
      · rw [if_neg h3] at he
        rw [Bool.not_eq_false] at h3
        rw [h3] at w2
        have w3 := contains_cuts l (fun c => decide (CutBad r c)) 58 (.agg [iv r]) (by omega) fun c _ => tailor1_ok c r h1
        by_cases h4 : (l.any fun c => decide (CutBad r c)) = true
        · rw [if_pos h4] at he; subst he
          rw [h4] at w3
          refine lim_by (fn := a31) (k := 3) (res := [.cell 6 3 true, .tmp 7]) rfl rfl rfl (by simp -implicitDefEqProofs (maxSteps := 2000000) (disch := first | exact tt_rfl rfl | omega | (simp only [go_sem] <;> omega) | fail) only [go_sem]) ?_
          simp -implicitDefEqProofs (maxSteps := 2000000) (disch := first | exact tt_rfl rfl | omega | (simp only [go_sem] <;> omega) | fail) only [go_sem]
          repeat (first | apply Wp.seqA | apply Wp.skipS | apply Wp.blockS | ((first | apply Wp.regS | apply Wp.condV | apply Wp.reg | apply Wp.condW | apply fin_ret); simp -implicitDefEqProofs (maxSteps := 2000000) (disch := first | exact tt_rfl rfl | omega | (simp only [go_sem] <;> omega) | fail) only [go_sem, w1, k1, k2, w2, w3] <;> try with_reducible rfl) | apply Wp.block | apply Wp.exitS | apply Wp.retS | apply Wp.exit | apply Wp.ret | apply Wp.skip)
          try rfl
        · rw [if_neg h4] at he
          rw [Bool.not_eq_true] at h4
          rw [h4] at w3
          refine lim_by (fn := a31) (k := 3) (res := [.cell 6 3 true, .tmp 7]) rfl rfl rfl (by simp -implicitDefEqProofs (maxSteps := 2000000) (disch := first | exact tt_rfl rfl | omega | (simp only [go_sem] <;> omega) | fail) only [go_sem]) ?_
          simp -implicitDefEqProofs (maxSteps := 2000000) (disch := first | exact tt_rfl rfl | omega | (simp only [go_sem] <;> omega) | fail) only [go_sem]
          repeat (first | apply Wp.seqA | apply Wp.skipS | apply Wp.blockS | ((first | apply Wp.regS | apply Wp.condV | apply Wp.reg | apply Wp.condW | apply fin_ret); simp -implicitDefEqProofs (maxSteps := 2000000) (disch := first | exact tt_rfl rfl | omega | (simp only [go_sem] <;> omega) | fail) only [go_sem, w1, k1, k2, w2, w3] <;> try with_reducible rfl) | apply Wp.block | apply Wp.exitS | apply Wp.retS | apply Wp.exit | apply Wp.ret | apply Wp.skip)
          apply Wp.loopF bad.length (fun i => ⟨[(1, .list 1 (bad.map fun n => iv n)), (2, .list 2 (l.map Cut.av)), (3, .ptr 192 0 0), (6, .ptr 384 0 0), (34, iv bad.length), (35, iv i)],
            [(192, .box [iv r]), (384, .box [iv 0, .slice 306145 0 0, .slice 306146 0 0]), (306145, .arr 1 []), (306146, .arr 2 [])], [], 10000000⟩) (fun i => ∀ j, j + 1 < bad.length → j + 1 < i → ¬ bad[j + 1]?.getD 0 ≤ bad[j]?.getD 0)
          · simp -implicitDefEqProofs (maxSteps := 2000000) (disch := first | exact tt_rfl rfl | omega | (simp only [go_sem] <;> omega) | fail) only [go_sem, norm_eq, Ok.some]
            try rfl
          · intro j hj h; omega
          intro i hi hok
          by_cases h : i < bad.length
          · have x1 : bad[i]? = some bad[i] := List.getElem?_eq_getElem h
            cases i with
            | zero =>
              repeat (first | apply Wp.seqA | apply Wp.skipS | apply Wp.blockS | ((first | apply Wp.regS | apply Wp.condV | apply Wp.reg | apply Wp.condW | apply fin_ret); simp -implicitDefEqProofs (maxSteps := 2000000) (disch := first | exact tt_rfl rfl | omega | (simp only [go_sem] <;> omega) | fail) only [go_sem, show (0 : Int) < bad.length by omega, List.getElem?_map, x1, Option.map_some] <;> try with_reducible rfl) | apply Wp.block | apply Wp.exitS | apply Wp.retS | apply Wp.exit | apply Wp.ret | apply Wp.skip)
              apply round_next
              · simp -implicitDefEqProofs (maxSteps := 2000000) (disch := first | exact tt_rfl rfl | omega | (simp only [go_sem] <;> omega) | fail) only [go_sem, norm_eq, Ok.some]; with_reducible rfl
              exact ⟨h, by simp, fun j _ hj => by omega⟩
            | succ i =>
              have x2 : bad[i]? = some bad[i] := List.getElem?_eq_getElem (by omega)
              by_cases q : bad[i + 1] ≤ bad[i]
              · rw [if_pos ⟨i, h, by simpa [x1, x2] using q⟩] at he; subst he
                repeat (first | apply Wp.seqA | apply Wp.skipS | apply Wp.blockS | ((first | apply Wp.regS | apply Wp.condV | apply Wp.reg | apply Wp.condW | apply fin_ret); simp -implicitDefEqProofs (maxSteps := 2000000) (disch := first | exact tt_rfl rfl | omega | (simp only [go_sem] <;> omega) | fail) only [go_sem, show ((i + 1 : Nat) : Int) < bad.length by omega, show (0 : Int) < ((i + 1 : Nat) : Int) by omega, List.getElem?_map, x1, x2, Option.map_some, q, show (((i + 1 : Nat) : Int) - 1).toNat = i by omega] <;> try with_reducible rfl) | apply Wp.block | apply Wp.exitS | apply Wp.retS | apply Wp.exit | apply Wp.ret | apply Wp.skip)
                try rfl
              · repeat (first | apply Wp.seqA | apply Wp.skipS | apply Wp.blockS | ((first | apply Wp.regS | apply Wp.condV | apply Wp.reg | apply Wp.condW | apply fin_ret); simp -implicitDefEqProofs (maxSteps := 2000000) (disch := first | exact tt_rfl rfl | omega | (simp only [go_sem] <;> omega) | fail) only [go_sem, show ((i + 1 : Nat) : Int) < bad.length by omega, show (0 : Int) < ((i + 1 : Nat) : Int) by omega, List.getElem?_map, x1, x2, Option.map_some, q, show (((i + 1 : Nat) : Int) - 1).toNat = i by omega] <;> try with_reducible rfl) | apply Wp.block | apply Wp.exitS | apply Wp.retS | apply Wp.exit | apply Wp.ret | apply Wp.skip)
                apply round_next
                · simp -implicitDefEqProofs (maxSteps := 2000000) (disch := first | exact tt_rfl rfl | omega | (simp only [go_sem] <;> omega) | fail) only [go_sem, norm_eq, Ok.some]; with_reducible rfl
                refine ⟨h, by simp, fun j hj hji => ?_⟩
                by_cases e : j = i
                · subst e; simpa [x1, x2] using q
                · exact hok j hj (by omega)
          · rw [if_neg fun ⟨j, hj, hc⟩ => hok j hj (by omega) hc] at he; subst he
            obtain rfl : i = bad.length := by omega
            repeat (first | apply Wp.seqA | apply Wp.skipS | apply Wp.blockS | ((first | apply Wp.regS | apply Wp.condV | apply Wp.reg | apply Wp.condW | apply fin_ret); simp -implicitDefEqProofs (maxSteps := 2000000) (disch := first | exact tt_rfl rfl | omega | (simp only [go_sem] <;> omega) | fail) only [go_sem, Int.lt_irrefl] <;> try with_reducible rfl) | apply Wp.block | apply Wp.exitS | apply Wp.retS | apply Wp.exit | apply Wp.ret | apply Wp.skip)
            try rfl
  · rw [decide_eq_false h1] at w1
    rw [if_pos h1] at he; subst he
    refine lim_by (fn := a31) (k := 3) (res := [.cell 6 3 true, .tmp 7]) rfl rfl rfl (by simp -implicitDefEqProofs (maxSteps := 2000000) (disch := first | exact tt_rfl rfl | omega | (simp only [go_sem] <;> omega) | fail) only [go_sem]) ?_
    simp -implicitDefEqProofs (maxSteps := 2000000) (disch := first | exact tt_rfl rfl | omega | (simp only [go_sem] <;> omega) | fail) only [go_sem]
    repeat (first | apply Wp.seqA | apply Wp.skipS | apply Wp.blockS | ((first | apply Wp.regS | apply Wp.condV | apply Wp.reg | apply Wp.condW | apply fin_ret); simp -implicitDefEqProofs (maxSteps := 2000000) (disch := first | exact tt_rfl rfl | omega | (simp only [go_sem] <;> omega) | fail) only [go_sem, w1] <;> try with_reducible rfl) | apply Wp.block | apply Wp.exitS | apply Wp.retS | apply Wp.exit | apply Wp.ret | apply Wp.skip)
    try rfl
end Go.Abs

