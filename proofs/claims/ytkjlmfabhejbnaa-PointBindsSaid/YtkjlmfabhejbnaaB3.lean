/-
  Chapter 1: a bound row, as the document finds it. No condition beyond those that each theorem names.
-/
import Derived.Test.YtkjlmfabhejbnaaR6
import Derived.Test.YtkjlmfabhejbnaaM12
set_option linter.all false
namespace Go.Abs
set_option maxRecDepth 10000
set_option maxHeartbeats 4000000

theorem Bits_ok (x H : Nat) (hx : x < 2 ^ H) (hH : H ≤ 60) : lim F 66 [iv (x : Int)] = some (iv ((cntN x.testBit H : Nat) : Int), []) := by
  have hp : 2 ^ H ≤ 2 ^ 60 := Nat.pow_le_pow_right (by omega) hH
  refine lim_by (fn := a66) (k := 1) (res := [.tmp 2]) rfl rfl rfl (by simp -implicitDefEqProofs (maxSteps := 2000000) (disch := first | exact tt_rfl rfl | omega | (simp only [go_sem] <;> omega) | fail) only [go_sem]) ?_
  simp -implicitDefEqProofs (maxSteps := 2000000) (disch := first | exact tt_rfl rfl | omega | (simp only [go_sem] <;> omega) | fail) only [go_sem]
  repeat (first | apply Wp.seqA | apply Wp.skipS | apply Wp.blockS | ((first | apply Wp.regS | apply Wp.condV | apply Wp.reg | apply Wp.condW | apply fin_ret); simp -implicitDefEqProofs (maxSteps := 2000000) (disch := first | exact tt_rfl rfl | omega | (simp only [go_sem] <;> omega) | fail) only [go_sem] <;> try with_reducible rfl) | apply Wp.block | apply Wp.exitS | apply Wp.retS | apply Wp.exit | apply Wp.ret | apply Wp.skip)
  apply Wp.loopF H (fun i => ⟨[(0, iv ((x / 2 ^ i : Nat) : Int)), (3, iv ((cntN x.testBit i : Nat) : Int))], [], [], 10000000⟩) (fun _ => True)
  · simp -implicitDefEqProofs (maxSteps := 2000000) (disch := first | exact tt_rfl rfl | omega | (simp only [go_sem] <;> omega) | fail) only [go_sem, norm_eq, Ok.some]
    simp [cntN]
  · trivial
  intro i hi _
  have hb : x / 2 ^ i ≤ x := Nat.div_le_self _ _
  have e0 : (0 : Int) ≤ ((x / 2 ^ i : Nat) : Int) := Int.natCast_nonneg _
  have e1 : Int.tmod ((x / 2 ^ i : Nat) : Int) 2 = ((x / 2 ^ i % 2 : Nat) : Int) := by rw [Int.tmod_eq_emod_of_nonneg e0]; omega
  have e2 : Int.tdiv ((x / 2 ^ i : Nat) : Int) 2 = ((x / 2 ^ (i + 1) : Nat) : Int) := by
    rw [Int.tdiv_eq_ediv_of_nonneg e0, Nat.pow_succ, ← Nat.div_div_eq_div_mul]; omega
  have hc := cntN_le x.testBit i
  by_cases h : 0 < x / 2 ^ i
  · have hiH : i < H := by
      rcases Nat.lt_or_ge i H with h1 | h1
      · exact h1
      · have : i = H := by omega
        subst this
        rw [Nat.div_eq_of_lt hx] at h; omega
    have e3 : cntN x.testBit (i + 1) = cntN x.testBit i + x / 2 ^ i % 2 := by
      rw [cntN_succ, Nat.testBit_eq_decide_div_mod_eq]
      congr 1
      by_cases h1 : x / 2 ^ i % 2 = 1
      · rw [h1]; rfl
      · rw [decide_eq_false h1]; simp; omega
    have hb' : x / 2 ^ (i + 1) ≤ x := Nat.div_le_self _ _
    have hm2 : x / 2 ^ i % 2 < 2 := Nat.mod_lt _ (by omega)
    rw [e3]
    generalize x / 2 ^ i % 2 = m at *
    generalize cntN x.testBit i = c at *
    generalize x / 2 ^ i = q at *
    generalize x / 2 ^ (i + 1) = q' at *
    repeat (first | apply Wp.seqA | apply Wp.skipS | apply Wp.blockS | ((first | apply Wp.regS | apply Wp.condV | apply Wp.reg | apply Wp.condW | apply fin_ret); simp -implicitDefEqProofs (maxSteps := 2000000) (disch := first | exact tt_rfl rfl | omega | (simp only [go_sem] <;> omega) | fail) only [go_sem, show (0 : Int) < (q : Int) by omega, e1, e2] <;> try with_reducible rfl) | apply Wp.block | apply Wp.exitS | apply Wp.retS | apply Wp.exit | apply Wp.ret | apply Wp.skip)
    apply round_next
    · simp -implicitDefEqProofs (maxSteps := 2000000) (disch := first | exact tt_rfl rfl | omega | (simp only [go_sem] <;> omega) | fail) only [go_sem, norm_eq, Ok.some]; with_reducible rfl
    refine ⟨hiH, ?_, trivial⟩
    simp
  · have hz : x / 2 ^ i = 0 := by omega
    have hlt : x < 2 ^ i := by
      rcases Nat.lt_or_ge x (2 ^ i) with h1 | h1
      · exact h1
      · have := Nat.div_pos h1 (Nat.pow_pos (by omega)); omega
    have e3 : cntN x.testBit H = cntN x.testBit i := cnt_stop (fun j hj => by
      have hp : 2 ^ i ≤ 2 ^ j := Nat.pow_le_pow_right (by omega) hj
      exact Nat.testBit_lt_two_pow (Nat.lt_of_lt_of_le hlt hp)) hi
    rw [hz, e3]
    repeat (first | apply Wp.seqA | apply Wp.skipS | apply Wp.blockS | ((first | apply Wp.regS | apply Wp.condV | apply Wp.reg | apply Wp.condW | apply fin_ret); simp -implicitDefEqProofs (maxSteps := 2000000) (disch := first | exact tt_rfl rfl | omega | (simp only [go_sem] <;> omega) | fail) only [go_sem, Int.natCast_zero, Int.lt_irrefl] <;> try with_reducible rfl) | apply Wp.block | apply Wp.exitS | apply Wp.retS | apply Wp.exit | apply Wp.ret | apply Wp.skip)
theorem Bound_ok (x n b : Nat) (hx : x < 9000000000000000000) (h0 : 0 < n) (hn : n ≤ 1000) : lim F 65 [iv (x : Int), iv (n : Int), iv (b : Int)] = some (.bool (bdT (ptsT x n) b), []) := by
  have hP := Points_ok x n hx hn
  have hl : (ptsT x n).length = n := by simp [ptsT]
  have hL := fun i (hi : i < n) => Length_ok (ptsT x n) i (by omega) (by omega)
  have hpl := bool_plain (ptsT x n)
  have hlen : ((ptsT x n).map fun b => AV.bool b).length = n := by simp [ptsT]
  have etk : ((ptsT x n).map fun b => AV.bool b).take n = (ptsT x n).map fun b => AV.bool b := List.take_of_length_le (by omega)
  unfold bdT
  rw [hl]
  unfold ringV at *
  generalize (ptsT x n).map (fun b => AV.bool b) = es at *
  generalize ptsT x n = l at *
  refine lim_by (fn := a65) (k := 3) (res := [.tmp 6]) rfl rfl rfl (by simp -implicitDefEqProofs (maxSteps := 2000000) (disch := first | exact tt_rfl rfl | omega | (simp only [go_sem] <;> omega) | fail) only [go_sem]) ?_
  simp -implicitDefEqProofs (maxSteps := 2000000) (disch := first | exact tt_rfl rfl | omega | (simp only [go_sem] <;> omega) | fail) only [go_sem]
  repeat (first | apply Wp.seqA | apply Wp.skipS | apply Wp.blockS | ((first | apply Wp.regS | apply Wp.condV | apply Wp.reg | apply Wp.condW | apply fin_ret); simp -implicitDefEqProofs (maxSteps := 2000000) (disch := first | exact tt_rfl rfl | omega | (simp only [go_sem] <;> omega) | fail) only [go_sem, hP, hlen, hpl, etk] <;> try with_reducible rfl) | apply Wp.block | apply Wp.exitS | apply Wp.retS | apply Wp.exit | apply Wp.ret | apply Wp.skip)
  apply Wp.loopF n (fun i => ⟨[(1, iv (n : Int)), (2, iv (b : Int)), (7, .slice 448 0 n), (8, iv (i : Int))], [(448, .arr 1 es)], [], 10000000⟩) (fun i => ∀ j, j < i → lengthT l j ≤ b)
  · simp -implicitDefEqProofs (maxSteps := 2000000) (disch := first | exact tt_rfl rfl | omega | (simp only [go_sem] <;> omega) | fail) only [go_sem, norm_eq, Ok.some]
    try rfl
  · intro j hj; omega
  intro i hi hp
  by_cases h : i < n
  · have hLi := hL i h
    by_cases h1 : b < lengthT l i
    · generalize hli0 : lengthT l i = li at *
      repeat (first | apply Wp.seqA | apply Wp.skipS | apply Wp.blockS | ((first | apply Wp.regS | apply Wp.condV | apply Wp.reg | apply Wp.condW | apply fin_ret); simp -implicitDefEqProofs (maxSteps := 2000000) (disch := first | exact tt_rfl rfl | omega | (simp only [go_sem] <;> omega) | fail) only [go_sem, h, Int.ofNat_lt, hLi, hlen, etk, hpl, show (b : Int) < (li : Int) by omega] <;> try with_reducible rfl) | apply Wp.block | apply Wp.exitS | apply Wp.retS | apply Wp.exit | apply Wp.ret | apply Wp.skip)
      rw [List.all_eq_false.2 ⟨i, List.mem_range.2 h, by simpa [hli0] using h1⟩]
    · have h1' := h1
      generalize hli : lengthT l i = li at *
      repeat (first | apply Wp.seqA | apply Wp.skipS | apply Wp.blockS | ((first | apply Wp.regS | apply Wp.condV | apply Wp.reg | apply Wp.condW | apply fin_ret); simp -implicitDefEqProofs (maxSteps := 2000000) (disch := first | exact tt_rfl rfl | omega | (simp only [go_sem] <;> omega) | fail) only [go_sem, h, Int.ofNat_lt, hLi, hlen, etk, hpl, show ¬ (b : Int) < (li : Int) by omega] <;> try with_reducible rfl) | apply Wp.block | apply Wp.exitS | apply Wp.retS | apply Wp.exit | apply Wp.ret | apply Wp.skip)
      apply round_next
      · simp -implicitDefEqProofs (maxSteps := 2000000) (disch := first | exact tt_rfl rfl | omega | (simp only [go_sem] <;> omega) | fail) only [go_sem, norm_eq, Ok.some]; with_reducible rfl
      refine ⟨h, by simp, fun j hj => ?_⟩
      rcases Nat.lt_or_ge j i with h2 | h2
      · exact hp j h2
      · have : j = i := by omega
        subst this; omega
  · obtain rfl : i = n := by omega
    repeat (first | apply Wp.seqA | apply Wp.skipS | apply Wp.blockS | ((first | apply Wp.regS | apply Wp.condV | apply Wp.reg | apply Wp.condW | apply fin_ret); simp -implicitDefEqProofs (maxSteps := 2000000) (disch := first | exact tt_rfl rfl | omega | (simp only [go_sem] <;> omega) | fail) only [go_sem, Int.lt_irrefl] <;> try with_reducible rfl) | apply Wp.block | apply Wp.exitS | apply Wp.retS | apply Wp.exit | apply Wp.ret | apply Wp.skip)
    rw [List.all_eq_true.2 fun j hj => decide_eq_true (hp j (List.mem_range.1 hj))]

theorem refBind_ok (row fixed H b : Nat) (hr : row < 2 ^ H) (hf : fixed < 2 ^ H) (hb1 : 1 ≤ b) (hb : b ≤ 24) (hH1 : 1 ≤ H) (hH : H ≤ 24) :
    lim F 29 [iv (row : Int), iv (fixed : Int), iv (H : Int), iv (b : Int)] = some (.tuple [iv ((if never ≤ bindChg row fixed H b then 0 else bindRow row fixed H b : Nat) : Int), iv ((if never ≤ bindChg row fixed H b then 0 else bindChg row fixed H b : Nat) : Int), .bool (decide (¬ never ≤ bindChg row fixed H b))], []) := by
  have hp : 2 ^ H ≤ 2 ^ 24 := Nat.pow_le_pow_right (by omega) hH
  have s1 := w_shl1 H (by omega)
  have u1 : IntKind.wrap .u64 (H : Int) = H := wrap_u64 (by omega) (by omega)
  have hBd := fun x (hx : x < 2 ^ H) => Bound_ok x H b (by omega) (by omega) (by omega)
  have hBt := fun x (hx : x < 2 ^ H) => Bits_ok (x ^^^ row) H (Nat.xor_lt_two_pow hx hr) (by omega)
  have hnone := fun h => bind_none (row := row) (fixed := fixed) (H := H) hb1 hH1 hH h
  have hbest := fun h => bind_best (row := row) (fixed := fixed) (H := H) hb1 hH1 hH h
  generalize bindChg row fixed H b = C at *
  generalize bindRow row fixed H b = R at *
  refine lim_by (fn := a29) (k := 4) (res := [.tmp 8, .tmp 9, .tmp 10]) rfl rfl rfl (by simp -implicitDefEqProofs (maxSteps := 2000000) (disch := first | exact tt_rfl rfl | omega | (simp only [go_sem] <;> omega) | fail) only [go_sem]) ?_
  simp -implicitDefEqProofs (maxSteps := 2000000) (disch := first | exact tt_rfl rfl | omega | (simp only [go_sem] <;> omega) | fail) only [go_sem]
  repeat (first | apply Wp.seqA | apply Wp.skipS | apply Wp.blockS | ((first | apply Wp.regS | apply Wp.condV | apply Wp.reg | apply Wp.condW | apply fin_ret); simp -implicitDefEqProofs (maxSteps := 2000000) (disch := first | exact tt_rfl rfl | omega | (simp only [go_sem] <;> omega) | fail) only [go_sem] <;> try with_reducible rfl) | apply Wp.block | apply Wp.exitS | apply Wp.retS | apply Wp.exit | apply Wp.ret | apply Wp.skip)
  apply Wp.loopN (2 ^ H) (fun x fr => ∃ best least found, fr = ⟨[(0, iv (row : Int)), (1, iv (fixed : Int)), (2, iv (H : Int)), (3, iv (b : Int)), (11, iv ((best : Nat) : Int)), (12, iv ((least : Nat) : Int)), (13, .bool found), (14, iv (x : Int))], [], [], 10000000⟩ ∧
    (found = false → best = 0 ∧ least = 0 ∧ ∀ y, y < x → ¬ CanBe row fixed H b y) ∧ (found = true → BestTo row fixed H b x best least))
  · simp -implicitDefEqProofs (maxSteps := 2000000) (disch := first | exact tt_rfl rfl | omega | (simp only [go_sem] <;> omega) | fail) only [go_sem, norm_eq, Ok.some]
    refine ⟨0, 0, false, rfl, fun _ => ⟨rfl, rfl, fun y hy => by omega⟩, fun h => by cases h⟩
  rintro x fr hx ⟨best, least, found, rfl, hno, hyes⟩
  by_cases h : x < 2 ^ H
  · have hBdx := hBd x h
    have hBtx := hBt x h
    have w1 := w_xor x row (by omega) (by omega)
    have hxl : x ^^^ row < 2 ^ H := Nat.xor_lt_two_pow h hr
    have w2 := w_and (x ^^^ row) fixed (by omega) (by omega)
    have hkeep := keep_and (row := row) (x := x) hf
    have hcan : CanBe row fixed H b x ↔ keepN row fixed x H ∧ bdT (ptsT x H) b = true := by
      rw [bd_word (by omega) (by omega)]
      exact ⟨fun h => ⟨h.keep, h.bd⟩, fun h' => ⟨h, h'.1, h'.2⟩⟩
    have hchg := chg_xor x row H
    have hchl := chgN_le x row H
    have hltx : (x : Int) < ((2 ^ H : Nat) : Int) := by omega
    generalize 2 ^ H = pw at *
    rw [← hchg] at hBtx
    generalize x ^^^ row = xr at *
    generalize hxa : xr &&& fixed = xa at *
    by_cases hk : xa = 0
    · cases hbd : bdT (ptsT x H) b with
      | false =>
        have hnc : ¬ CanBe row fixed H b x := fun hc => by
          have := (hcan.1 hc).2
          rw [hbd] at this; cases this
        rw [hbd] at hBdx
        subst hk
        repeat (first | apply Wp.seqA | apply Wp.skipS | apply Wp.blockS | ((first | apply Wp.regS | apply Wp.condV | apply Wp.reg | apply Wp.condW | apply fin_ret); simp -implicitDefEqProofs (maxSteps := 2000000) (disch := first | exact tt_rfl rfl | omega | (simp only [go_sem] <;> omega) | fail) only [go_sem, s1, u1, hltx, w1, w2, hBdx, Int.natCast_zero, Int.toNat_natCast] <;> try with_reducible rfl) | apply Wp.block | apply Wp.exitS | apply Wp.retS | apply Wp.exit | apply Wp.ret | apply Wp.skip)
        apply round_next
        · simp -implicitDefEqProofs (maxSteps := 2000000) (disch := first | exact tt_rfl rfl | omega | (simp only [go_sem] <;> omega) | fail) only [go_sem, norm_eq, Ok.some]; with_reducible rfl
        refine ⟨h, best, least, found, by simp, fun hf => ⟨(hno hf).1, (hno hf).2.1, fun y hy => ?_⟩, fun hf => (hyes hf).skip fun hc => hnc hc.1⟩
        rcases Nat.lt_or_ge y x with h1 | h1
        · exact (hno hf).2.2 y h1
        · obtain rfl : y = x := by omega
          exact hnc
      | true =>
        have hc : CanBe row fixed H b x := hcan.2 ⟨hkeep.1 hk, hbd⟩
        rw [hbd] at hBdx
        subst hk
        cases found with
        | false =>
          repeat (first | apply Wp.seqA | apply Wp.skipS | apply Wp.blockS | ((first | apply Wp.regS | apply Wp.condV | apply Wp.reg | apply Wp.condW | apply fin_ret); simp -implicitDefEqProofs (maxSteps := 2000000) (disch := first | exact tt_rfl rfl | omega | (simp only [go_sem] <;> omega) | fail) only [go_sem, s1, u1, hltx, w1, w2, hBdx, hBtx, Int.natCast_zero, Int.toNat_natCast] <;> try with_reducible rfl) | apply Wp.block | apply Wp.exitS | apply Wp.retS | apply Wp.exit | apply Wp.ret | apply Wp.skip)
          apply round_next
          · simp -implicitDefEqProofs (maxSteps := 2000000) (disch := first | exact tt_rfl rfl | omega | (simp only [go_sem] <;> omega) | fail) only [go_sem, norm_eq, Ok.some]; with_reducible rfl
          exact ⟨h, x, chgN x row H, true, by simp, (fun hf => nomatch hf), fun _ => BestTo.first (hno rfl).2.2 hc⟩
        | true =>
          by_cases hlt : chgN x row H < least
          · repeat (first | apply Wp.seqA | apply Wp.skipS | apply Wp.blockS | ((first | apply Wp.regS | apply Wp.condV | apply Wp.reg | apply Wp.condW | apply fin_ret); simp -implicitDefEqProofs (maxSteps := 2000000) (disch := first | exact tt_rfl rfl | omega | (simp only [go_sem] <;> omega) | fail) only [go_sem, s1, u1, hltx, w1, w2, hBdx, hBtx, Int.natCast_zero, Int.toNat_natCast, show ((chgN x row H : Nat) : Int) < (least : Int) by omega] <;> try with_reducible rfl) | apply Wp.block | apply Wp.exitS | apply Wp.retS | apply Wp.exit | apply Wp.ret | apply Wp.skip)
            apply round_next
            · simp -implicitDefEqProofs (maxSteps := 2000000) (disch := first | exact tt_rfl rfl | omega | (simp only [go_sem] <;> omega) | fail) only [go_sem, norm_eq, Ok.some]; with_reducible rfl
            exact ⟨h, x, chgN x row H, true, by simp, (fun hf => nomatch hf), fun _ => (hyes rfl).better hc hlt⟩
          · repeat (first | apply Wp.seqA | apply Wp.skipS | apply Wp.blockS | ((first | apply Wp.regS | apply Wp.condV | apply Wp.reg | apply Wp.condW | apply fin_ret); simp -implicitDefEqProofs (maxSteps := 2000000) (disch := first | exact tt_rfl rfl | omega | (simp only [go_sem] <;> omega) | fail) only [go_sem, s1, u1, hltx, w1, w2, hBdx, hBtx, Int.natCast_zero, Int.toNat_natCast, show ¬ ((chgN x row H : Nat) : Int) < (least : Int) by omega] <;> try with_reducible rfl) | apply Wp.block | apply Wp.exitS | apply Wp.retS | apply Wp.exit | apply Wp.ret | apply Wp.skip)
            apply round_next
            · simp -implicitDefEqProofs (maxSteps := 2000000) (disch := first | exact tt_rfl rfl | omega | (simp only [go_sem] <;> omega) | fail) only [go_sem, norm_eq, Ok.some]; with_reducible rfl
            exact ⟨h, best, least, true, by simp, (fun hf => nomatch hf), fun _ => (hyes rfl).skip fun hc => hlt hc.2⟩
    · have hnc : ¬ CanBe row fixed H b x := fun hc => hk (hkeep.2 (hcan.1 hc).1)
      repeat (first | apply Wp.seqA | apply Wp.skipS | apply Wp.blockS | ((first | apply Wp.regS | apply Wp.condV | apply Wp.reg | apply Wp.condW | apply fin_ret); simp -implicitDefEqProofs (maxSteps := 2000000) (disch := first | exact tt_rfl rfl | omega | (simp only [go_sem] <;> omega) | fail) only [go_sem, s1, u1, hltx, w1, w2, show ¬ (xa : Int) = 0 by omega, Int.toNat_natCast] <;> try with_reducible rfl) | apply Wp.block | apply Wp.exitS | apply Wp.retS | apply Wp.exit | apply Wp.ret | apply Wp.skip)
      apply round_next
      · simp -implicitDefEqProofs (maxSteps := 2000000) (disch := first | exact tt_rfl rfl | omega | (simp only [go_sem] <;> omega) | fail) only [go_sem, norm_eq, Ok.some]; with_reducible rfl
      refine ⟨h, best, least, found, by simp, fun hf => ⟨(hno hf).1, (hno hf).2.1, fun y hy => ?_⟩, fun hf => (hyes hf).skip fun hc => hnc hc.1⟩
      rcases Nat.lt_or_ge y x with h1 | h1
      · exact (hno hf).2.2 y h1
      · obtain rfl : y = x := by omega
        exact hnc
  · obtain rfl : x = 2 ^ H := by omega
    have hfin : found = decide (¬ never ≤ C) ∧ best = (if never ≤ C then 0 else R) ∧ least = (if never ≤ C then 0 else C) := by
      by_cases hC : never ≤ C
      · rw [if_pos hC, if_pos hC, decide_eq_false (fun h => h hC)]
        cases found with
        | true => exact absurd (hyes rfl).can (hnone hC _)
        | false => exact ⟨rfl, (hno rfl).1, (hno rfl).2.1⟩
      · rw [if_neg hC, if_neg hC, decide_eq_true hC]
        have hB := hbest (by omega)
        cases found with
        | true =>
          obtain ⟨e1, e2⟩ := (hyes rfl).is.eq hB
          exact ⟨rfl, e1, e2⟩
        | false => exact absurd hB.can ((hno rfl).2.2 _ hB.can.lt)
    obtain ⟨e1, e2, e3⟩ := hfin
    rw [← e1, ← e2, ← e3]
    generalize 2 ^ H = pw at *
    repeat (first | apply Wp.seqA | apply Wp.skipS | apply Wp.blockS | ((first | apply Wp.regS | apply Wp.condV | apply Wp.reg | apply Wp.condW | apply fin_ret); simp -implicitDefEqProofs (maxSteps := 2000000) (disch := first | exact tt_rfl rfl | omega | (simp only [go_sem] <;> omega) | fail) only [go_sem, s1, u1, Int.lt_irrefl, Int.toNat_natCast] <;> try with_reducible rfl) | apply Wp.block | apply Wp.exitS | apply Wp.retS | apply Wp.exit | apply Wp.ret | apply Wp.skip)
end Go.Abs
