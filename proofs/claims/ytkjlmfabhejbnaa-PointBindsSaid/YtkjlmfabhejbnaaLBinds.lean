/-
  PointBinds: the design with the fewest changes that is bound, or the error, is what the document says.
-/
import Derived.Test.YtkjlmfabhejbnaaB4
import Derived.Test.YtkjlmfabhejbnaaB3
import Derived.Test.YtkjlmfabhejbnaaQ1
import Derived.Test.YtkjlmfabhejbnaaKnown
import Derived.Test.YtkjlmfabhejbnaaCut
set_option linter.all false
namespace Go.Abs
set_option maxRecDepth 10000
set_option maxHeartbeats 4000000

theorem desi_ok (hk : Int) (es : List AV) : lim F 28 [iv hk, .list 1 es] = some (.agg [iv hk, .list 1 es], []) := by
  refine lim_by (fn := a28) (k := 2) (res := [.cell 4 2 true]) rfl rfl rfl (by simp -implicitDefEqProofs (maxSteps := 2000000) (disch := first | exact tt_rfl rfl | omega | (simp only [go_sem] <;> omega) | fail) only [go_sem]) ?_
  simp -implicitDefEqProofs (maxSteps := 2000000) (disch := first | exact tt_rfl rfl | omega | (simp only [go_sem] <;> omega) | fail) only [go_sem]
  repeat (first | apply Wp.seqA | apply Wp.skipS | apply Wp.blockS | ((first | apply Wp.regS | apply Wp.condV | apply Wp.reg | apply Wp.condW | apply fin_ret); simp -implicitDefEqProofs (maxSteps := 2000000) (disch := first | exact tt_rfl rfl | omega | (simp only [go_sem] <;> omega) | fail) only [go_sem] <;> try with_reducible rfl) | apply Wp.block | apply Wp.exitS | apply Wp.retS | apply Wp.exit | apply Wp.ret | apply Wp.skip)
theorem same_nats (hk : Int) (l : List Nat) (hl : l.length ≤ 1000000) : lim F 21 [.agg [iv hk, .list 1 (natsV l)], .agg [iv hk, .list 1 (natsV l)]] = some (.bool true, []) := by
  have hs := Same_ok ⟨hk, l.map fun n : Nat => (n : Int)⟩ ⟨hk, l.map fun n : Nat => (n : Int)⟩ (by simpa using hl)
  rw [own_self] at hs
  unfold DesA.av at hs
  dsimp only at hs
  rw [List.map_map] at hs
  exact hs
/-- the error of the document, but for the bound -/
def bindsE (d : DesA) (fx : List Int) : Int := if checkD d ≠ 0 then checkD d else if fx.length ≠ d.rows.length then 4 else if ¬ (fx.all fun n => decide (rowOk d.hk n)) then 2 else 0
theorem pointBinds_ok (d : DesA) (fx : List Int) (b : Int) : lim F 4 [d.av, .list 1 (fx.map fun n => iv n), iv b] = some (.bool true, []) := by
  have kn := known_ok
  have hL : lim F 14 [.list 2 [d.av]] = some (.bool (largeT [d]), []) := large_ok [d] (by simp)
  have hlf : (fx.map fun n => iv n).length = fx.length := by simp
  have hlr : (d.rows.map fun n => iv n).length = d.rows.length := by simp
  by_cases h70 : 70 < d.rows.length
  · rw [show largeT [d] = true by simp [largeT, h70]] at hL
    unfold DesA.av at *
    generalize fx.map (fun n => iv n) = fs at *
    refine lim_by (fn := a4) (k := 3) (res := [.tmp 6]) rfl rfl rfl (by simp -implicitDefEqProofs (maxSteps := 2000000) (disch := first | exact tt_rfl rfl | omega | (simp only [go_sem] <;> omega) | fail) only [go_sem]) ?_
    simp -implicitDefEqProofs (maxSteps := 2000000) (disch := first | exact tt_rfl rfl | omega | (simp only [go_sem] <;> omega) | fail) only [go_sem]
    repeat (first | apply Wp.seqA | apply Wp.skipS | apply Wp.blockS | ((first | apply Wp.regS | apply Wp.condV | apply Wp.reg | apply Wp.condW | apply fin_ret); simp -implicitDefEqProofs (maxSteps := 2000000) (disch := first | exact tt_rfl rfl | omega | (simp only [go_sem] <;> omega) | fail) only [go_sem, hL, kn] <;> try with_reducible rfl) | apply Wp.block | apply Wp.exitS | apply Wp.retS | apply Wp.exit | apply Wp.ret | apply Wp.skip)
  rw [show largeT [d] = false by simp [largeT, h70]] at hL
  by_cases h70' : 70 < fx.length
  · unfold DesA.av at *
    generalize fx.map (fun n => iv n) = fs at *
    refine lim_by (fn := a4) (k := 3) (res := [.tmp 6]) rfl rfl rfl (by simp -implicitDefEqProofs (maxSteps := 2000000) (disch := first | exact tt_rfl rfl | omega | (simp only [go_sem] <;> omega) | fail) only [go_sem]) ?_
    simp -implicitDefEqProofs (maxSteps := 2000000) (disch := first | exact tt_rfl rfl | omega | (simp only [go_sem] <;> omega) | fail) only [go_sem]
    repeat (first | apply Wp.seqA | apply Wp.skipS | apply Wp.blockS | ((first | apply Wp.regS | apply Wp.condV | apply Wp.reg | apply Wp.condW | apply fin_ret); simp -implicitDefEqProofs (maxSteps := 2000000) (disch := first | exact tt_rfl rfl | omega | (simp only [go_sem] <;> omega) | fail) only [go_sem, hL, kn, hlf, show (70 : Int) < (fx.length : Int) by omega] <;> try with_reducible rfl) | apply Wp.block | apply Wp.exitS | apply Wp.retS | apply Wp.exit | apply Wp.ret | apply Wp.skip)
  have ho := own_ok d (by omega)
  have hi := ints_ok fx (by omega)
  have hs := Same_ok d d (by omega)
  have hr := refCheck_ok d (by omega)
  rw [own_self] at hs
  have hs2 := Same_ok ⟨0, fx⟩ ⟨0, fx⟩ (by dsimp only; omega)
  rw [own_self] at hs2
  have hD := desi_ok 0 (fx.map fun n => iv n)
  have hnn := none_ok 0 [] (by simp)
  simp only [decide_true, Bool.and_self] at hnn
  have hpf : (fx.map fun n => iv n).all AV.plain = true := by simp [AV.plain, AV.plain1]
  have hpr : (d.rows.map fun n => iv n).all AV.plain = true := by simp [AV.plain, AV.plain1]
  have hBad := fun e he h => Bind_bad d (by omega) fx (by omega) b e he h
  have hIn := refIn_ok b 1 24
  have hgf : ∀ i (h : i < fx.length), (fx.map fun n => iv n)[i]? = some (iv fx[i]) := fun i h => by
    rw [List.getElem?_map, List.getElem?_eq_getElem h]; rfl
  have htf : (fx.map fun n => iv n).take fx.length = fx.map fun n => iv n := List.take_of_length_le (by omega)
  have htr : (d.rows.map fun n => iv n).take d.rows.length = d.rows.map fun n => iv n := List.take_of_length_le (by omega)
  unfold DesA.av at *
  dsimp only at hs2
  generalize hrs : d.rows.map (fun n => iv n) = rs at *
  generalize hfs : fx.map (fun n => iv n) = fs at *
  generalize hdk : d.hk = dk at *
  refine lim_by (fn := a4) (k := 3) (res := [.tmp 6]) rfl rfl rfl (by simp -implicitDefEqProofs (maxSteps := 2000000) (disch := first | exact tt_rfl rfl | omega | (simp only [go_sem] <;> omega) | fail) only [go_sem]) ?_
  simp -implicitDefEqProofs (maxSteps := 2000000) (disch := first | exact tt_rfl rfl | omega | (simp only [go_sem] <;> omega) | fail) only [go_sem]
  refine Wp.cutP (fun fr => ∃ i : Nat, fr = ⟨[(1, .list 1 fs), (2, iv b), (3, .ptr 192 0 0), (7, iv (bindsE d fx)), (8, iv (i : Int)), (48, .bool false)], [(192, .box [iv dk, .list 1 rs])], [], 10000256⟩) 5 _ _ ?_ ?_
  · simp only [frontC]
    unfold bindsE
    by_cases hc : checkD d ≠ 0
    · rw [if_pos hc]
      generalize checkD d = c at *
      repeat (first | apply Wp.seqA | apply Wp.skipS | apply Wp.blockS | ((first | apply Wp.regS | apply Wp.condV | apply Wp.reg | apply Wp.condW | apply fin_ret); simp -implicitDefEqProofs (maxSteps := 2000000) (disch := first | exact tt_rfl rfl | omega | (simp only [go_sem] <;> omega) | fail) only [go_sem, hL, hlf, hlr, hr, hc, show ¬ (70 : Int) < (fx.length : Int) by omega] <;> try with_reducible rfl) | apply Wp.block | apply Wp.exitS | apply Wp.retS | apply Wp.exit | apply Wp.ret | apply Wp.skip)
      apply Wp.loopF 0 (fun i => ⟨[(1, .list 1 fs), (2, iv b), (3, .ptr 192 0 0), (7, iv c), (8, iv (i : Int))], [(192, .box [iv dk, .list 1 rs])], [], 10000000⟩) (fun i => i = 0)
      · simp -implicitDefEqProofs (maxSteps := 2000000) (disch := first | exact tt_rfl rfl | omega | (simp only [go_sem] <;> omega) | fail) only [go_sem, norm_eq, Ok.some]
        rfl
      · rfl
      rintro i _ rfl
      generalize hq1 : decide ((0 : Int) < (fx.length : Int)) = q1
      cases q1
      all_goals
        repeat (first | apply Wp.seqA | apply Wp.skipS | apply Wp.blockS | ((first | apply Wp.regS | apply Wp.condV | apply Wp.reg | apply Wp.condW | apply fin_ret); simp -implicitDefEqProofs (maxSteps := 2000000) (disch := first | exact tt_rfl rfl | omega | (simp only [go_sem] <;> omega) | fail) only [go_sem, hq1, hlf, hc, Int.natCast_zero] <;> try with_reducible rfl) | apply Wp.block | apply Wp.exitS | apply Wp.retS | apply Wp.exit | apply Wp.ret | apply Wp.skip)
      all_goals exact ⟨rfl, 0, rfl⟩
    · rw [if_neg hc]
      have hc0 : checkD d = 0 := Decidable.of_not_not hc
      rw [hc0] at hr
      by_cases hlen : fx.length ≠ d.rows.length
      · rw [if_pos hlen]
        repeat (first | apply Wp.seqA | apply Wp.skipS | apply Wp.blockS | ((first | apply Wp.regS | apply Wp.condV | apply Wp.reg | apply Wp.condW | apply fin_ret); simp -implicitDefEqProofs (maxSteps := 2000000) (disch := first | exact tt_rfl rfl | omega | (simp only [go_sem] <;> omega) | fail) only [go_sem, hL, hlf, hlr, hr, show ¬ (70 : Int) < (fx.length : Int) by omega, show ¬ (fx.length : Int) = (d.rows.length : Int) by omega] <;> try with_reducible rfl) | apply Wp.block | apply Wp.exitS | apply Wp.retS | apply Wp.exit | apply Wp.ret | apply Wp.skip)
        apply Wp.loopF 0 (fun i => ⟨[(1, .list 1 fs), (2, iv b), (3, .ptr 192 0 0), (7, iv 4), (8, iv (i : Int))], [(192, .box [iv dk, .list 1 rs])], [], 10000000⟩) (fun i => i = 0)
        · simp -implicitDefEqProofs (maxSteps := 2000000) (disch := first | exact tt_rfl rfl | omega | (simp only [go_sem] <;> omega) | fail) only [go_sem, norm_eq, Ok.some]
          rfl
        · rfl
        rintro i _ rfl
        generalize hq1 : decide ((0 : Int) < (fx.length : Int)) = q1
        cases q1
        all_goals
          repeat (first | apply Wp.seqA | apply Wp.skipS | apply Wp.blockS | ((first | apply Wp.regS | apply Wp.condV | apply Wp.reg | apply Wp.condW | apply fin_ret); simp -implicitDefEqProofs (maxSteps := 2000000) (disch := first | exact tt_rfl rfl | omega | (simp only [go_sem] <;> omega) | fail) only [go_sem, hq1, hlf, Int.natCast_zero] <;> try with_reducible rfl) | apply Wp.block | apply Wp.exitS | apply Wp.retS | apply Wp.exit | apply Wp.ret | apply Wp.skip)
        all_goals exact ⟨rfl, 0, rfl⟩
      · rw [if_neg hlen]
        have hlen' : fx.length = d.rows.length := Decidable.of_not_not hlen
        obtain ⟨n, hn, hdn⟩ := checkD_zero hc0
        have hkn : dk = (n.hk : Int) := by rw [← hdk, hdn]; rfl
        subst hkn
        have h24 := hn.h24
        have p1 : 2 ^ n.hk ≤ 2 ^ 24 := Nat.pow_le_pow_right (by omega) (by omega)
        have p2 : 0 < 2 ^ n.hk := Nat.pow_pos (by omega)
        have s1 := w_shl1 n.hk (by omega)
        have s1' := s1
        rw [bits64] at s1'
        have u1 : IntKind.wrap .u64 (n.hk : Int) = n.hk := wrap_u64 (by omega) (by omega)
        have hrow : ∀ m, decide (rowOk d.hk m) = decide (0 ≤ m ∧ m ≤ ((2 ^ n.hk : Nat) : Int) - 1) := fun m => by rw [hdk]; rfl
        simp only [hrow]
        have hInf := fun m => refIn_ok m 0 (((2 ^ n.hk : Nat) : Int) - 1)
        generalize 2 ^ n.hk = pw at *
        repeat (first | apply Wp.seqA | apply Wp.skipS | apply Wp.blockS | ((first | apply Wp.regS | apply Wp.condV | apply Wp.reg | apply Wp.condW | apply fin_ret); simp -implicitDefEqProofs (maxSteps := 2000000) (disch := first | exact tt_rfl rfl | omega | (simp only [go_sem] <;> omega) | fail) only [go_sem, hL, hlf, hlr, hr, hlen', show ¬ (70 : Int) < (d.rows.length : Int) by omega] <;> try with_reducible rfl) | apply Wp.block | apply Wp.exitS | apply Wp.retS | apply Wp.exit | apply Wp.ret | apply Wp.skip)
        apply Wp.loopN fx.length (fun i fr => ∃ w : Int, fr = ⟨[(1, .list 1 fs), (2, iv b), (3, .ptr 192 0 0), (7, iv w), (8, iv (i : Int))], [(192, .box [iv (n.hk : Int), .list 1 rs])], [], 10000000⟩ ∧
          ((w = 0 ∧ ∀ j (hj : j < fx.length), j < i → decide (0 ≤ fx[j] ∧ fx[j] ≤ (pw : Int) - 1) = true) ∨ (w = 2 ∧ (fx.all fun m => decide (0 ≤ m ∧ m ≤ (pw : Int) - 1)) = false)))
        · simp -implicitDefEqProofs (maxSteps := 2000000) (disch := first | exact tt_rfl rfl | omega | (simp only [go_sem] <;> omega) | fail) only [go_sem, norm_eq, Ok.some]
          exact ⟨0, rfl, .inl ⟨rfl, fun j hj h => by omega⟩⟩
        rintro i fr hi' ⟨w, rfl, hw⟩
        rcases hw with ⟨rfl, hok⟩ | ⟨rfl, hbad⟩
        · by_cases h : i < fx.length
          · have hg := hgf i h
            have hIi := hInf fx[i]
            cases hq : decide (0 ≤ fx[i] ∧ fx[i] ≤ (pw : Int) - 1) with
            | true =>
              rw [hq] at hIi
              repeat (first | apply Wp.seqA | apply Wp.skipS | apply Wp.blockS | ((first | apply Wp.regS | apply Wp.condV | apply Wp.reg | apply Wp.condW | apply fin_ret); simp -implicitDefEqProofs (maxSteps := 2000000) (disch := first | exact tt_rfl rfl | omega | (simp only [go_sem] <;> omega) | fail) only [go_sem, hlf, show (i : Int) < (fx.length : Int) by omega, hg, hIi, s1, s1', u1, Int.toNat_natCast] <;> try with_reducible rfl) | apply Wp.block | apply Wp.exitS | apply Wp.retS | apply Wp.exit | apply Wp.ret | apply Wp.skip)
              apply round_next
              · simp -implicitDefEqProofs (maxSteps := 2000000) (disch := first | exact tt_rfl rfl | omega | (simp only [go_sem] <;> omega) | fail) only [go_sem, norm_eq, Ok.some]; with_reducible rfl
              refine ⟨h, 0, by simp, .inl ⟨rfl, fun j hj hji => ?_⟩⟩
              by_cases e : j = i
              · subst e; exact hq
              · exact hok j hj (by omega)
            | false =>
              rw [hq] at hIi
              repeat (first | apply Wp.seqA | apply Wp.skipS | apply Wp.blockS | ((first | apply Wp.regS | apply Wp.condV | apply Wp.reg | apply Wp.condW | apply fin_ret); simp -implicitDefEqProofs (maxSteps := 2000000) (disch := first | exact tt_rfl rfl | omega | (simp only [go_sem] <;> omega) | fail) only [go_sem, hlf, show (i : Int) < (fx.length : Int) by omega, hg, hIi, s1, s1', u1, Int.toNat_natCast] <;> try with_reducible rfl) | apply Wp.block | apply Wp.exitS | apply Wp.retS | apply Wp.exit | apply Wp.ret | apply Wp.skip)
              apply round_next
              · simp -implicitDefEqProofs (maxSteps := 2000000) (disch := first | exact tt_rfl rfl | omega | (simp only [go_sem] <;> omega) | fail) only [go_sem, norm_eq, Ok.some]; with_reducible rfl
              exact ⟨h, 2, by simp, .inr ⟨rfl, List.all_eq_false.2 ⟨fx[i], List.getElem_mem h, by rw [hq]; simp⟩⟩⟩
          · have hall : (fx.all fun m => decide (0 ≤ m ∧ m ≤ (pw : Int) - 1)) = true := List.all_eq_true.2 fun m hm => by
              obtain ⟨j, hj, rfl⟩ := List.getElem_of_mem hm
              exact hok j hj (by omega)
            rw [hall, if_neg (by simp)]
            repeat (first | apply Wp.seqA | apply Wp.skipS | apply Wp.blockS | ((first | apply Wp.regS | apply Wp.condV | apply Wp.reg | apply Wp.condW | apply fin_ret); simp -implicitDefEqProofs (maxSteps := 2000000) (disch := first | exact tt_rfl rfl | omega | (simp only [go_sem] <;> omega) | fail) only [go_sem, hlf, show ¬ (i : Int) < (fx.length : Int) by omega] <;> try with_reducible rfl) | apply Wp.block | apply Wp.exitS | apply Wp.retS | apply Wp.exit | apply Wp.ret | apply Wp.skip)
            exact ⟨rfl, i, rfl⟩
        · rw [hbad, if_pos (by simp)]
          generalize hq1 : decide ((i : Int) < (fx.length : Int)) = q1
          cases q1
          all_goals
            repeat (first | apply Wp.seqA | apply Wp.skipS | apply Wp.blockS | ((first | apply Wp.regS | apply Wp.condV | apply Wp.reg | apply Wp.condW | apply fin_ret); simp -implicitDefEqProofs (maxSteps := 2000000) (disch := first | exact tt_rfl rfl | omega | (simp only [go_sem] <;> omega) | fail) only [go_sem, hq1, hlf] <;> try with_reducible rfl) | apply Wp.block | apply Wp.exitS | apply Wp.retS | apply Wp.exit | apply Wp.ret | apply Wp.skip)
          all_goals exact ⟨rfl, i, rfl⟩
  · rintro fr ⟨i, rfl⟩
    simp only [backC]
    by_cases hE : bindsE d fx ≠ 0
    · have hB := hBad (bindsE d fx) hE (by
        unfold bindsE at *
        by_cases h1 : checkD d ≠ 0
        · rw [if_pos h1, if_pos h1]
        · rw [if_neg h1, if_neg h1]
          rw [if_neg h1] at hE
          by_cases h2 : fx.length ≠ d.rows.length
          · rw [if_pos h2, if_pos h2]
          · rw [if_neg h2, if_neg h2]
            rw [if_neg h2] at hE
            by_cases h3 : ¬ (fx.all fun n => decide (rowOk dk n)) = true
            · rw [hdk, if_pos h3, if_pos h3]
            · rw [hdk, if_neg h3] at hE; exact absurd rfl hE)
      generalize bindsE d fx = e at *
      repeat (first | apply Wp.seqA | apply Wp.skipS | apply Wp.blockS | ((first | apply Wp.regS | apply Wp.condV | apply Wp.reg | apply Wp.condW | apply fin_ret); simp -implicitDefEqProofs (maxSteps := 2000000) (disch := first | exact tt_rfl rfl | omega | (simp only [go_sem] <;> omega) | fail) only [go_sem, hE, ho, hi, hB, hs, hs2, hD, hlf, hlr, hpf, hpr, htf, htr] <;> try with_reducible rfl) | apply Wp.block | apply Wp.exitS | apply Wp.retS | apply Wp.exit | apply Wp.ret | apply Wp.skip)
      apply Wp.loopF 0 (fun i => ⟨[(1, .list 1 fs), (2, iv b), (3, .ptr 192 0 0), (7, iv e), (11, .ptr 704 0 0), (12, iv 0), (13, iv e), (14, .ptr 896 0 0), (15, iv 0), (16, iv (i : Int))], [(192, .box [iv dk, .list 1 rs]), (704, .box [iv 0, .slice 311265 0 0]), (896, .box [iv dk, .slice 314337 0 0]), (311265, .arr 1 []), (314337, .arr 1 [])], [], 10000000⟩) (fun i => i = 0)
      · simp -implicitDefEqProofs (maxSteps := 2000000) (disch := first | exact tt_rfl rfl | omega | (simp only [go_sem] <;> omega) | fail) only [go_sem, norm_eq, Ok.some]
        rfl
      · rfl
      rintro i _ rfl
      generalize hq1 : decide ((0 : Int) < (d.rows.length : Int)) = q1
      cases q1
      all_goals
        repeat (first | apply Wp.seqA | apply Wp.skipS | apply Wp.blockS | ((first | apply Wp.regS | apply Wp.condV | apply Wp.reg | apply Wp.condW | apply fin_ret); simp -implicitDefEqProofs (maxSteps := 2000000) (disch := first | exact tt_rfl rfl | omega | (simp only [go_sem] <;> omega) | fail) only [go_sem, hq1, hlr, hnn, kn, Int.natCast_zero, hE, List.length_nil] <;> try with_reducible rfl) | apply Wp.block | apply Wp.exitS | apply Wp.retS | apply Wp.exit | apply Wp.ret | apply Wp.skip)
    · have hE0 : bindsE d fx = 0 := Decidable.of_not_not hE
      rw [hE0]
      by_cases hb : 1 ≤ b ∧ b ≤ 24
      · rw [decide_eq_true hb] at hIn
        clear hBad hE
        have hc0 : checkD d = 0 := by
          unfold bindsE at hE0
          by_cases h1 : checkD d = 0
          · exact h1
          · rw [if_pos h1] at hE0; exact hE0
        unfold bindsE at hE0
        rw [if_neg (show ¬ checkD d ≠ 0 by omega)] at hE0
        have hlen : fx.length = d.rows.length := by
          by_cases h2 : fx.length = d.rows.length
          · exact h2
          · rw [if_pos h2] at hE0; cases hE0
        rw [if_neg (show ¬ fx.length ≠ d.rows.length by omega)] at hE0
        have hall' : (fx.all fun n => decide (rowOk d.hk n)) = true := by
          by_cases h3 : ¬ (fx.all fun n => decide (rowOk d.hk n)) = true
          · rw [if_pos h3] at hE0; cases hE0
          · exact Decidable.of_not_not h3
        clear hE0
        obtain ⟨n, hn, hdn⟩ := checkD_zero hc0
        have hkn : dk = (n.hk : Int) := by rw [← hdk, hdn]; rfl
        have hrn : d.rows.length = n.rows.length := by rw [hdn]; simp [DesN.a]
        have hrs' : rs = natsV n.rows := by rw [← hrs, hdn]; unfold DesN.a; rw [List.map_map]; rfl
        obtain ⟨fn, hfn, hf⟩ : ∃ fn : List Nat, fx = fn.map (fun n : Nat => (n : Int)) ∧ FixOk n fn := by
          have hr' : ∀ r ∈ fx, rowOk (n.hk : Int) r := fun r hr => by
            have := of_decide_eq_true (List.all_eq_true.1 hall' r hr)
            rw [hdk, hkn] at this; exact this
          have hm : fx = (fx.map Int.toNat).map (fun n : Nat => (n : Int)) := by
            rw [List.map_map]
            conv => lhs; rw [← List.map_id fx]
            refine List.map_congr_left fun r hm => ?_
            have := (hr' r hm).1
            simp only [Function.comp, id]; omega
          refine ⟨fx.map Int.toNat, hm, by simp; omega, fun r hm' => ?_⟩
          obtain ⟨q, hq, rfl⟩ := List.mem_map.1 hm'
          have := hr' q hq
          dsimp only [rowOk] at this
          rw [show ((n.hk : Int)).toNat = n.hk by omega] at this
          omega
        have hfs' : fs = natsV fn := by rw [← hfs, hfn, List.map_map]; rfl
        have hlfn : fx.length = n.rows.length := by omega
        clear hgf hall' hc0
        rw [hlfn] at hlf htf
        rw [hrn] at hlr htr
        clear hdn hfn hlen hrn
        subst hkn
        obtain ⟨k, rfl⟩ : ∃ k : Nat, b = k := ⟨b.toNat, by omega⟩
        by_cases h9 : (9 : Int) < (n.hk : Int) ∨ (6 : Int) < (n.rows.length : Int)
        · by_cases h9' : (9 : Int) < (n.hk : Int)
          · repeat (first | apply Wp.seqA | apply Wp.skipS | apply Wp.blockS | ((first | apply Wp.regS | apply Wp.condV | apply Wp.reg | apply Wp.condW | apply fin_ret); simp -implicitDefEqProofs (maxSteps := 2000000) (disch := first | exact tt_rfl rfl | omega | (simp only [go_sem] <;> omega) | fail) only [go_sem, hIn, kn, hlr, h9'] <;> try with_reducible rfl) | apply Wp.block | apply Wp.exitS | apply Wp.retS | apply Wp.exit | apply Wp.ret | apply Wp.skip)
          · have h6 : (6 : Int) < (n.rows.length : Int) := by omega
            repeat (first | apply Wp.seqA | apply Wp.skipS | apply Wp.blockS | ((first | apply Wp.regS | apply Wp.condV | apply Wp.reg | apply Wp.condW | apply fin_ret); simp -implicitDefEqProofs (maxSteps := 2000000) (disch := first | exact tt_rfl rfl | omega | (simp only [go_sem] <;> omega) | fail) only [go_sem, hIn, kn, hlr, h9', h6] <;> try with_reducible rfl) | apply Wp.block | apply Wp.exitS | apply Wp.retS | apply Wp.exit | apply Wp.ret | apply Wp.skip)
        have h9' : ¬ (9 : Int) < (n.hk : Int) := fun h => h9 (.inl h)
        have h6 : ¬ (6 : Int) < (n.rows.length : Int) := fun h => h9 (.inr h)
        have h60 := hn.r60
        have hRB : ∀ i, i < n.rows.length → lim F 29 [iv ((n.rows.getD i 0 : Nat) : Int), iv ((fn.getD i 0 : Nat) : Int), iv (n.hk : Int), iv (k : Int)] = some (.tuple [iv ((if never ≤ bChg n fn k i then 0 else bRow n fn k i : Nat) : Int), iv ((if never ≤ bChg n fn k i then 0 else bChg n fn k i : Nat) : Int), .bool (decide (¬ never ≤ bChg n fn k i))], []) := fun i hi => by
          have l1 := hn.lt _ (List.getElem_mem hi)
          rw [← rows_get hi] at l1
          exact refBind_ok _ _ n.hk k l1 (hf.get hi) (by omega) (by omega) hn.h1 hn.h24
        have hg : ∀ i, i < n.rows.length → rs[i]? = some (iv ((n.rows.getD i 0 : Nat) : Int)) := fun i hi => by rw [hrs']; exact nats_at hi
        have hgf : ∀ i, i < n.rows.length → fs[i]? = some (iv ((fn.getD i 0 : Nat) : Int)) := fun i hi => by rw [hfs']; exact nats_at (by rw [hf.len]; exact hi)
        have hcl : ∀ i, bChg n fn k i ≤ 1048576 := fun i => Nat.min_le_left _ _
        have hsm : ∀ i, bAll n fn k i → bSum n fn k i ≤ i * 24 := fun i h => bSum_le hn (by omega) h
        have hnv : never = 1048576 := rfl
        have hst : ∀ i, natsV ((List.range (i + 1)).map (bRow n fn k)) = natsV ((List.range i).map (bRow n fn k)) ++ [iv ((bRow n fn k i : Nat) : Int)] := fun i => by
          unfold natsV; rw [List.range_succ, List.map_append, List.map_append]; rfl
        have hRl : ∀ i, (natsV ((List.range i).map (bRow n fn k))).length = i := fun i => by simp
        have hss : ∀ i, bSum n fn k (i + 1) = bSum n fn k i + bChg n fn k i := fun i => rfl
        by_cases hall : bAll n fn k n.rows.length
        · have hB := Bind_ok n hn fn hf k (by omega) _ (fun _ => rfl) (fun h => absurd hall h)
          change lim F _ [.agg [_, .list 1 (natsV n.rows)], _, _] = _ at hB
          rw [← hrs', ← hfs'] at hB
          have hS := same_nats (n.hk : Int) (bindN n fn k).rows (by simp [bindN]; omega)
          have hpl := nat_plain (bindN n fn k).rows
          have hbl : (natsV (bindN n fn k).rows).length = n.rows.length := by simp [bindN]
          have htb : (natsV (bindN n fn k).rows).take n.rows.length = natsV (bindN n fn k).rows := List.take_of_length_le (by omega)
          have hbe : natsV (bindN n fn k).rows = natsV ((List.range n.rows.length).map (bRow n fn k)) := rfl
          change (natsV (bindN n fn k).rows).all AV.plain = true at hpl
          generalize natsV (bindN n fn k).rows = bs at *
          generalize hsumT : bSum n fn k n.rows.length = sumT at *
          repeat (first | apply Wp.seqA | apply Wp.skipS | apply Wp.blockS | ((first | apply Wp.regS | apply Wp.condV | apply Wp.reg | apply Wp.condW | apply fin_ret); simp -implicitDefEqProofs (maxSteps := 2000000) (disch := first | exact tt_rfl rfl | omega | (simp only [go_sem] <;> omega) | fail) only [go_sem, hIn, h9', h6, ho, hi, hB, hs, hs2, hD, hlf, hlr, hpf, hpr, htf, htr, hbl, hpl, htb] <;> try with_reducible rfl) | apply Wp.block | apply Wp.exitS | apply Wp.retS | apply Wp.exit | apply Wp.ret | apply Wp.skip)
          apply Wp.loopF n.rows.length (fun i => ⟨[(1, .list 1 fs), (2, iv (k : Int)), (3, .ptr 192 0 0), (7, iv 0), (11, .ptr 704 0 0), (12, iv (sumT : Int)), (13, iv 0), (14, .ptr 896 0 0), (15, iv ((bSum n fn k i : Nat) : Int)), (16, iv (i : Int))], [(192, .box [iv (n.hk : Int), .list 1 rs]), (704, .box [iv (n.hk : Int), .slice 311265 0 n.rows.length]), (896, .box [iv (n.hk : Int), .slice 314337 0 i]), (311265, .arr 1 bs), (314337, .arr 1 (natsV ((List.range i).map (bRow n fn k))))], [], 10000000⟩) (fun _ => True)
          · simp -implicitDefEqProofs (maxSteps := 2000000) (disch := first | exact tt_rfl rfl | omega | (simp only [go_sem] <;> omega) | fail) only [go_sem, norm_eq, Ok.some]
            rfl
          · trivial
          intro i hi' _
          by_cases h : i < n.rows.length
          · have hRi := hRB i h
            have hlt : bChg n fn k i < never := hall i h
            rw [if_neg (show ¬ never ≤ bChg n fn k i by omega), if_neg (show ¬ never ≤ bChg n fn k i by omega), decide_eq_true (show ¬ never ≤ bChg n fn k i by omega)] at hRi
            have g1 := hg i h
            have g2 := hgf i h
            have hs1 := hst i
            have hl1 := hRl i
            have hc1 := hcl i
            have hsm1 := hsm i fun j hj => hall j (by omega)
            have hs2' := hss i
            clear hRB hg hgf hst hRl hcl hsm hss
            generalize natsV ((List.range i).map (bRow n fn k)) = es at *
            generalize natsV ((List.range (i + 1)).map (bRow n fn k)) = es' at *
            generalize bSum n fn k (i + 1) = sm' at *
            generalize bSum n fn k i = sm at *
            generalize bChg n fn k i = c at *
            generalize bRow n fn k i = r1 at *
            generalize n.rows.getD i 0 = r0 at *
            generalize fn.getD i 0 = f0 at *
            repeat (first | apply Wp.seqA | apply Wp.skipS | apply Wp.blockS | ((first | apply Wp.regS | apply Wp.condV | apply Wp.reg | apply Wp.condW | apply fin_ret); simp -implicitDefEqProofs (maxSteps := 2000000) (disch := first | exact tt_rfl rfl | omega | (simp only [go_sem] <;> omega) | fail) only [go_sem, hlr, hlf, show (i : Int) < (n.rows.length : Int) by omega, g1, g2, hRi, hl1, Int.toNat_natCast] <;> try with_reducible rfl) | apply Wp.block | apply Wp.exitS | apply Wp.retS | apply Wp.exit | apply Wp.ret | apply Wp.skip)
            apply round_next
            · simp -implicitDefEqProofs (maxSteps := 2000000) (disch := first | exact tt_rfl rfl | omega | (simp only [go_sem] <;> omega) | fail) only [go_sem, norm_eq, Ok.some]; with_reducible rfl
            refine ⟨h, ?_, trivial⟩
            rw [hs1, hs2']
            simp
          · obtain rfl : i = n.rows.length := by omega
            have hl1 := hRl n.rows.length
            rw [← hbe, hsumT]
            repeat (first | apply Wp.seqA | apply Wp.skipS | apply Wp.blockS | ((first | apply Wp.regS | apply Wp.condV | apply Wp.reg | apply Wp.condW | apply fin_ret); simp -implicitDefEqProofs (maxSteps := 2000000) (disch := first | exact tt_rfl rfl | omega | (simp only [go_sem] <;> omega) | fail) only [go_sem, hlr, Int.lt_irrefl, hS, hbl, htb, hpl, kn] <;> try with_reducible rfl) | apply Wp.block | apply Wp.exitS | apply Wp.retS | apply Wp.exit | apply Wp.ret | apply Wp.skip)
        · have hB := Bind_ok n hn fn hf k (by omega) _ (fun h => absurd h hall) (fun _ => rfl)
          change lim F _ [.agg [_, .list 1 (natsV n.rows)], _, _] = _ at hB
          rw [← hrs', ← hfs'] at hB
          repeat (first | apply Wp.seqA | apply Wp.skipS | apply Wp.blockS | ((first | apply Wp.regS | apply Wp.condV | apply Wp.reg | apply Wp.condW | apply fin_ret); simp -implicitDefEqProofs (maxSteps := 2000000) (disch := first | exact tt_rfl rfl | omega | (simp only [go_sem] <;> omega) | fail) only [go_sem, hIn, h9', h6, ho, hi, hB, hs, hs2, hD, hlf, hlr, hpf, hpr, htf, htr] <;> try with_reducible rfl) | apply Wp.block | apply Wp.exitS | apply Wp.retS | apply Wp.exit | apply Wp.ret | apply Wp.skip)
          apply Wp.loopN n.rows.length (fun i fr => ∃ (w : Int) (es : List AV) (sm : Nat), fr = ⟨[(1, .list 1 fs), (2, iv (k : Int)), (3, .ptr 192 0 0), (7, iv w), (11, .ptr 704 0 0), (12, iv 0), (13, iv 9), (14, .ptr 896 0 0), (15, iv (sm : Int)), (16, iv (i : Int))], [(192, .box [iv (n.hk : Int), .list 1 rs]), (704, .box [iv 0, .slice 311265 0 0]), (896, .box [iv (n.hk : Int), .slice 314337 0 i]), (311265, .arr 1 []), (314337, .arr 1 es)], [], 10000000⟩ ∧ es.length = i ∧
            ((w = 0 ∧ bAll n fn k i ∧ sm = bSum n fn k i) ∨ w = 9))
          · simp -implicitDefEqProofs (maxSteps := 2000000) (disch := first | exact tt_rfl rfl | omega | (simp only [go_sem] <;> omega) | fail) only [go_sem, norm_eq, Ok.some]
            exact ⟨0, [], 0, rfl, rfl, .inl ⟨rfl, fun j hj => by omega, rfl⟩⟩
          rintro i fr hi' ⟨w, es, sm, rfl, hel, hw⟩
          rcases hw with ⟨rfl, hA, hsme⟩ | rfl
          · by_cases h : i < n.rows.length
            · have hRi := hRB i h
              have g1 := hg i h
              have g2 := hgf i h
              have hc1 := hcl i
              have hsm1 := hsm i hA
              have hs2' := hss i
              rw [← hsme] at hsm1 hs2'
              by_cases hn' : never ≤ bChg n fn k i
              · rw [if_pos hn', if_pos hn', decide_eq_false (fun h => h hn')] at hRi
                clear hRB hg hgf hst hRl hcl hsm hss
                generalize n.rows.getD i 0 = r0 at *
                generalize fn.getD i 0 = f0 at *
                repeat (first | apply Wp.seqA | apply Wp.skipS | apply Wp.blockS | ((first | apply Wp.regS | apply Wp.condV | apply Wp.reg | apply Wp.condW | apply fin_ret); simp -implicitDefEqProofs (maxSteps := 2000000) (disch := first | exact tt_rfl rfl | omega | (simp only [go_sem] <;> omega) | fail) only [go_sem, hlr, hlf, show (i : Int) < (n.rows.length : Int) by omega, g1, g2, hRi, hel, Int.natCast_zero, Int.toNat_natCast] <;> try with_reducible rfl) | apply Wp.block | apply Wp.exitS | apply Wp.retS | apply Wp.exit | apply Wp.ret | apply Wp.skip)
                apply round_next
                · simp -implicitDefEqProofs (maxSteps := 2000000) (disch := first | exact tt_rfl rfl | omega | (simp only [go_sem] <;> omega) | fail) only [go_sem, norm_eq, Ok.some]; with_reducible rfl
                exact ⟨h, 9, es ++ [iv 0], sm, by simp, by simp [hel], .inr rfl⟩
              · rw [if_neg hn', if_neg hn', decide_eq_true hn'] at hRi
                have hA2 : bAll n fn k (i + 1) := fun j hj => by
                  rcases Nat.lt_or_ge j i with h1 | h1
                  · exact hA j h1
                  · have : j = i := by omega
                    subst this; omega
                clear hRB hg hgf hst hRl hcl hsm hss hsme
                generalize bSum n fn k (i + 1) = sm' at *
                generalize bChg n fn k i = c at *
                generalize bRow n fn k i = r1 at *
                generalize n.rows.getD i 0 = r0 at *
                generalize fn.getD i 0 = f0 at *
                repeat (first | apply Wp.seqA | apply Wp.skipS | apply Wp.blockS | ((first | apply Wp.regS | apply Wp.condV | apply Wp.reg | apply Wp.condW | apply fin_ret); simp -implicitDefEqProofs (maxSteps := 2000000) (disch := first | exact tt_rfl rfl | omega | (simp only [go_sem] <;> omega) | fail) only [go_sem, hlr, hlf, show (i : Int) < (n.rows.length : Int) by omega, g1, g2, hRi, hel, Int.toNat_natCast] <;> try with_reducible rfl) | apply Wp.block | apply Wp.exitS | apply Wp.retS | apply Wp.exit | apply Wp.ret | apply Wp.skip)
                apply round_next
                · simp -implicitDefEqProofs (maxSteps := 2000000) (disch := first | exact tt_rfl rfl | omega | (simp only [go_sem] <;> omega) | fail) only [go_sem, norm_eq, Ok.some]; with_reducible rfl
                exact ⟨h, 0, es ++ [iv (r1 : Int)], sm', by rw [hs2']; simp, by simp [hel], .inl ⟨rfl, hA2, rfl⟩⟩
            · obtain rfl : i = n.rows.length := by omega
              exact absurd hA hall
          · generalize hq1 : decide ((i : Int) < (n.rows.length : Int)) = q1
            cases q1
            all_goals
              repeat (first | apply Wp.seqA | apply Wp.skipS | apply Wp.blockS | ((first | apply Wp.regS | apply Wp.condV | apply Wp.reg | apply Wp.condW | apply fin_ret); simp -implicitDefEqProofs (maxSteps := 2000000) (disch := first | exact tt_rfl rfl | omega | (simp only [go_sem] <;> omega) | fail) only [go_sem, hq1, hlr, hnn, kn, Int.natCast_zero, List.length_nil] <;> try with_reducible rfl) | apply Wp.block | apply Wp.exitS | apply Wp.retS | apply Wp.exit | apply Wp.ret | apply Wp.skip)
      · rw [decide_eq_false hb] at hIn
        have hB := hBad 3 (by omega) (by
          unfold bindsE at hE0
          by_cases h1 : checkD d ≠ 0
          · rw [if_pos h1] at hE0; exact absurd hE0 h1
          · rw [if_neg h1] at hE0 ⊢
            by_cases h2 : fx.length ≠ d.rows.length
            · rw [if_pos h2] at hE0; cases hE0
            · rw [if_neg h2] at hE0 ⊢
              by_cases h3 : ¬ (fx.all fun n => decide (rowOk d.hk n)) = true
              · rw [if_pos h3] at hE0; cases hE0
              · rw [hdk] at h3
                rw [if_neg h3, if_pos hb])
        repeat (first | apply Wp.seqA | apply Wp.skipS | apply Wp.blockS | ((first | apply Wp.regS | apply Wp.condV | apply Wp.reg | apply Wp.condW | apply fin_ret); simp -implicitDefEqProofs (maxSteps := 2000000) (disch := first | exact tt_rfl rfl | omega | (simp only [go_sem] <;> omega) | fail) only [go_sem, hIn, ho, hi, hB, hs, hs2, hD, hlf, hlr, hpf, hpr, htf, htr] <;> try with_reducible rfl) | apply Wp.block | apply Wp.exitS | apply Wp.retS | apply Wp.exit | apply Wp.ret | apply Wp.skip)
        apply Wp.loopF 0 (fun i => ⟨[(1, .list 1 fs), (2, iv b), (3, .ptr 192 0 0), (7, iv 3), (11, .ptr 704 0 0), (12, iv 0), (13, iv 3), (14, .ptr 896 0 0), (15, iv 0), (16, iv (i : Int))], [(192, .box [iv dk, .list 1 rs]), (704, .box [iv 0, .slice 311265 0 0]), (896, .box [iv dk, .slice 314337 0 0]), (311265, .arr 1 []), (314337, .arr 1 [])], [], 10000000⟩) (fun i => i = 0)
        · simp -implicitDefEqProofs (maxSteps := 2000000) (disch := first | exact tt_rfl rfl | omega | (simp only [go_sem] <;> omega) | fail) only [go_sem, norm_eq, Ok.some]
          rfl
        · rfl
        rintro i _ rfl
        generalize hq1 : decide ((0 : Int) < (d.rows.length : Int)) = q1
        cases q1
        all_goals
          repeat (first | apply Wp.seqA | apply Wp.skipS | apply Wp.blockS | ((first | apply Wp.regS | apply Wp.condV | apply Wp.reg | apply Wp.condW | apply fin_ret); simp -implicitDefEqProofs (maxSteps := 2000000) (disch := first | exact tt_rfl rfl | omega | (simp only [go_sem] <;> omega) | fail) only [go_sem, hq1, hlr, hnn, kn, Int.natCast_zero, List.length_nil] <;> try with_reducible rfl) | apply Wp.block | apply Wp.exitS | apply Wp.retS | apply Wp.exit | apply Wp.ret | apply Wp.skip)
end Go.Abs
