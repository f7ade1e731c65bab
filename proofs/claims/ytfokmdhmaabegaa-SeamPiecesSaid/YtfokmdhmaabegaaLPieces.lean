/-
  Chapter 7: the statement SeamPieces returns true.
-/
import Derived.Test.YtfokmdhmaabegaaS44
import Derived.Test.YtfokmdhmaabegaaKnown
set_option linter.all false
namespace Go.Abs
set_option maxRecDepth 10000
set_option maxHeartbeats 4000000

theorem Pieces_err (r picks e : Int) (l : List Cut) (h1 : ¬ (1 ≤ picks ∧ picks ≤ 100000) → e = 3) (h2 : (1 ≤ picks ∧ picks ≤ 100000) → cutsE r [] l ≠ 0 ∧ e = cutsE r [] l) : lim F 46 [iv r, iv picks, .list 2 (l.map Cut.av)] = some (.tuple [iv 0, iv e], []) := by
  have hw := within_ok 1 100000 [picks] (by simp)
  simp only [List.map_cons, List.map_nil, List.all_cons, List.all_nil, Bool.and_true] at hw
  by_cases hp : 1 ≤ picks ∧ picks ≤ 100000
  · obtain ⟨h3, rfl⟩ := h2 hp
    rw [decide_eq_true hp] at hw
    have hn := newTailor_ok r [] l
    rw [if_neg h3] at hn
    simp only [tailor0, List.map_nil] at hn
    refine lim_by (fn := a46) (k := 3) (res := [.tmp 6, .tmp 7]) rfl rfl rfl (by simp -implicitDefEqProofs (maxSteps := 2000000) (disch := first | exact tt_rfl rfl | omega | (simp only [go_sem] <;> omega) | fail) only [go_sem]) ?_
    simp -implicitDefEqProofs (maxSteps := 2000000) (disch := first | exact tt_rfl rfl | omega | (simp only [go_sem] <;> omega) | fail) only [go_sem]
    repeat (first | apply Wp.seqA | apply Wp.skipS | apply Wp.blockS | ((first | apply Wp.regS | apply Wp.condV | apply Wp.reg | apply Wp.condW | apply fin_ret); simp -implicitDefEqProofs (maxSteps := 2000000) (disch := first | exact tt_rfl rfl | omega | (simp only [go_sem] <;> omega) | fail) only [go_sem, hw, hn, h3] <;> try with_reducible rfl) | apply Wp.block | apply Wp.exitS | apply Wp.retS | apply Wp.exit | apply Wp.ret | apply Wp.skip)
  · obtain rfl := h1 hp
    rw [decide_eq_false hp] at hw
    refine lim_by (fn := a46) (k := 3) (res := [.tmp 6, .tmp 7]) rfl rfl rfl (by simp -implicitDefEqProofs (maxSteps := 2000000) (disch := first | exact tt_rfl rfl | omega | (simp only [go_sem] <;> omega) | fail) only [go_sem]) ?_
    simp -implicitDefEqProofs (maxSteps := 2000000) (disch := first | exact tt_rfl rfl | omega | (simp only [go_sem] <;> omega) | fail) only [go_sem]
    repeat (first | apply Wp.seqA | apply Wp.skipS | apply Wp.blockS | ((first | apply Wp.regS | apply Wp.condV | apply Wp.reg | apply Wp.condW | apply fin_ret); simp -implicitDefEqProofs (maxSteps := 2000000) (disch := first | exact tt_rfl rfl | omega | (simp only [go_sem] <;> omega) | fail) only [go_sem, hw] <;> try with_reducible rfl) | apply Wp.block | apply Wp.exitS | apply Wp.retS | apply Wp.exit | apply Wp.ret | apply Wp.skip)

theorem ext_asg {n : Nat} {P : (Nat → Bool) → Prop} (hmono : ∀ p q : Nat → Bool, (∀ i, i < n → p i = true → q i = true) → P q → P p) (h : Nat → Nat) (m : Nat) : Onto n P 0 0 h m ↔ Asg n P (fun _ => true) m := by
  constructor
  · rintro ⟨_, h', _, h2, h3⟩
    exact ⟨h', fun i hi _ => h2 i hi, fun j hj => hmono _ _ (fun i _ hp => by simpa using hp) (h3 j hj)⟩
  · rintro ⟨h', h2, h3⟩
    exact ⟨Nat.zero_le _, h', fun i hi => by omega, fun i hi => h2 i hi rfl, fun j hj => hmono _ _ (fun i _ hp => by simpa using hp) (h3 j hj)⟩

open Classical in
theorem seamPieces_ok (r picks : Int) (l : List Cut) : lim F 8 [iv r, iv picks, .list 2 (l.map Cut.av)] = some (.bool true, []) := by
  have hkn := known_ok
  have hE := refCuts_ok r [] l
  have hI1 := In_ok r 1 100
  have hI2 := In_ok picks 1 100000
  rw [List.map_nil] at hE
  by_cases hr : 1 ≤ r ∧ r ≤ 100
  · rw [decide_eq_true hr] at hI1
    by_cases hp : 1 ≤ picks ∧ picks ≤ 100000
    · rw [decide_eq_true hp] at hI2
      by_cases b2 : 12 < l.length
      · refine lim_by (fn := a8) (k := 3) (res := [.tmp 6]) rfl rfl rfl (by simp -implicitDefEqProofs (maxSteps := 2000000) (disch := first | exact tt_rfl rfl | omega | (simp only [go_sem] <;> omega) | fail) only [go_sem]) ?_
        simp -implicitDefEqProofs (maxSteps := 2000000) (disch := first | exact tt_rfl rfl | omega | (simp only [go_sem] <;> omega) | fail) only [go_sem]
        repeat (first | apply Wp.seqA | apply Wp.skipS | apply Wp.blockS | ((first | apply Wp.regS | apply Wp.condV | apply Wp.reg | apply Wp.condW | apply fin_ret); simp -implicitDefEqProofs (maxSteps := 2000000) (disch := first | exact tt_rfl rfl | omega | (simp only [go_sem] <;> omega) | fail) only [go_sem, hkn, hI1, hI2, hE, show (12 : Int) < l.length by omega] <;> try with_reducible rfl) | apply Wp.block | apply Wp.exitS | apply Wp.retS | apply Wp.exit | apply Wp.ret | apply Wp.skip)
      · have c2 : ¬ (12 : Int) < l.length := by omega
        have hcu := cuts_ok l (by omega)
        have hli := like_ok l (by omega)
        by_cases z : cutsE r [] l = 0
        · rw [z] at hE
          by_cases b3 : 5 < l.length
          · refine lim_by (fn := a8) (k := 3) (res := [.tmp 6]) rfl rfl rfl (by simp -implicitDefEqProofs (maxSteps := 2000000) (disch := first | exact tt_rfl rfl | omega | (simp only [go_sem] <;> omega) | fail) only [go_sem]) ?_
            simp -implicitDefEqProofs (maxSteps := 2000000) (disch := first | exact tt_rfl rfl | omega | (simp only [go_sem] <;> omega) | fail) only [go_sem]
            repeat (first | apply Wp.seqA | apply Wp.skipS | apply Wp.blockS | ((first | apply Wp.regS | apply Wp.condV | apply Wp.reg | apply Wp.condW | apply fin_ret); simp -implicitDefEqProofs (maxSteps := 2000000) (disch := first | exact tt_rfl rfl | omega | (simp only [go_sem] <;> omega) | fail) only [go_sem, hkn, hI1, hI2, hE, c2, show (5 : Int) < l.length by omega] <;> try with_reducible rfl) | apply Wp.block | apply Wp.exitS | apply Wp.retS | apply Wp.exit | apply Wp.ret | apply Wp.skip)
          · have c3 : ¬ (5 : Int) < l.length := by omega
            have hv := cutsE_zero z
            have hmono := fun p q hh => feas_mono hv (m := picks) (p := p) (q := q) hh
            obtain ⟨q, hR, v, rfl, hL⟩ := refPieces_ok r picks l hv (by omega) l.length 0 0 (fun _ => 0) (by omega) (Nat.le_refl _) (fun i hi => by omega) (fun j hj => by omega)
            have hL := least_congr hL (ext_asg hmono _)
            rw [List.range_zero, List.map_nil, show ((0 : Nat) : Int) = 0 from rfl] at hR
            obtain ⟨q, hC, hC2⟩ := Pieces_ok r picks l z hp
            rcases hC2 with ⟨m, rfl, hm⟩ | ⟨rfl, i, hi, hno⟩
            · have hvm : v = m := by
                rcases hL with ⟨_, h⟩ | ⟨m', rfl, h1, _, h2⟩
                · exact absurd hm.1 (h m)
                · rw [hm.uniq ⟨h1, h2⟩]
              subst hvm
              have hm5 : ¬ (5 : Int) < m := by
                have h1 : ∀ i, i < l.length → Feas r [] l picks fun j => decide (j = i) := fun i hi => asg_single_of hmono hm.1 hi rfl
                have := hm.2 _ (asg_singles hmono h1 _)
                omega
              clear hL hm hmono hv
              refine lim_by (fn := a8) (k := 3) (res := [.tmp 6]) rfl rfl rfl (by simp -implicitDefEqProofs (maxSteps := 2000000) (disch := first | exact tt_rfl rfl | omega | (simp only [go_sem] <;> omega) | fail) only [go_sem]) ?_
              simp -implicitDefEqProofs (maxSteps := 2000000) (disch := first | exact tt_rfl rfl | omega | (simp only [go_sem] <;> omega) | fail) only [go_sem]
              repeat (first | apply Wp.seqA | apply Wp.skipS | apply Wp.blockS | ((first | apply Wp.regS | apply Wp.condV | apply Wp.reg | apply Wp.condW | apply fin_ret); simp -implicitDefEqProofs (maxSteps := 2000000) (disch := first | exact tt_rfl rfl | omega | (simp only [go_sem] <;> omega) | fail) only [go_sem, hkn, hI1, hI2, hE, c2, c3, hcu, hli, hC, hR, hm5] <;> try with_reducible rfl) | apply Wp.block | apply Wp.exitS | apply Wp.retS | apply Wp.exit | apply Wp.ret | apply Wp.skip)
            · have hvm : v = 1099511627776 := by
                rcases hL with ⟨h, _⟩ | ⟨m', rfl, h1, _, h2⟩
                · exact h
                · exact absurd (asg_single_of hmono h1 hi rfl) hno
              subst hvm
              clear hL hmono hv hno
              refine lim_by (fn := a8) (k := 3) (res := [.tmp 6]) rfl rfl rfl (by simp -implicitDefEqProofs (maxSteps := 2000000) (disch := first | exact tt_rfl rfl | omega | (simp only [go_sem] <;> omega) | fail) only [go_sem]) ?_
              simp -implicitDefEqProofs (maxSteps := 2000000) (disch := first | exact tt_rfl rfl | omega | (simp only [go_sem] <;> omega) | fail) only [go_sem]
              repeat (first | apply Wp.seqA | apply Wp.skipS | apply Wp.blockS | ((first | apply Wp.regS | apply Wp.condV | apply Wp.reg | apply Wp.condW | apply fin_ret); simp -implicitDefEqProofs (maxSteps := 2000000) (disch := first | exact tt_rfl rfl | omega | (simp only [go_sem] <;> omega) | fail) only [go_sem, hkn, hI1, hI2, hE, c2, c3, hcu, hli, hC, hR] <;> try with_reducible rfl) | apply Wp.block | apply Wp.exitS | apply Wp.retS | apply Wp.exit | apply Wp.ret | apply Wp.skip)
        · have hC := Pieces_err r picks _ l (fun h => absurd hp h) (fun _ => ⟨z, rfl⟩)
          refine lim_by (fn := a8) (k := 3) (res := [.tmp 6]) rfl rfl rfl (by simp -implicitDefEqProofs (maxSteps := 2000000) (disch := first | exact tt_rfl rfl | omega | (simp only [go_sem] <;> omega) | fail) only [go_sem]) ?_
          simp -implicitDefEqProofs (maxSteps := 2000000) (disch := first | exact tt_rfl rfl | omega | (simp only [go_sem] <;> omega) | fail) only [go_sem]
          repeat (first | apply Wp.seqA | apply Wp.skipS | apply Wp.blockS | ((first | apply Wp.regS | apply Wp.condV | apply Wp.reg | apply Wp.condW | apply fin_ret); simp -implicitDefEqProofs (maxSteps := 2000000) (disch := first | exact tt_rfl rfl | omega | (simp only [go_sem] <;> omega) | fail) only [go_sem, hkn, hI1, hI2, hE, c2, hcu, hli, hC, z] <;> try with_reducible rfl) | apply Wp.block | apply Wp.exitS | apply Wp.retS | apply Wp.exit | apply Wp.ret | apply Wp.skip)
    · rw [decide_eq_false hp] at hI2
      by_cases b2 : 12 < l.length
      · refine lim_by (fn := a8) (k := 3) (res := [.tmp 6]) rfl rfl rfl (by simp -implicitDefEqProofs (maxSteps := 2000000) (disch := first | exact tt_rfl rfl | omega | (simp only [go_sem] <;> omega) | fail) only [go_sem]) ?_
        simp -implicitDefEqProofs (maxSteps := 2000000) (disch := first | exact tt_rfl rfl | omega | (simp only [go_sem] <;> omega) | fail) only [go_sem]
        repeat (first | apply Wp.seqA | apply Wp.skipS | apply Wp.blockS | ((first | apply Wp.regS | apply Wp.condV | apply Wp.reg | apply Wp.condW | apply fin_ret); simp -implicitDefEqProofs (maxSteps := 2000000) (disch := first | exact tt_rfl rfl | omega | (simp only [go_sem] <;> omega) | fail) only [go_sem, hkn, hI1, hI2, show (12 : Int) < l.length by omega] <;> try with_reducible rfl) | apply Wp.block | apply Wp.exitS | apply Wp.retS | apply Wp.exit | apply Wp.ret | apply Wp.skip)
      · have c2 : ¬ (12 : Int) < l.length := by omega
        have hcu := cuts_ok l (by omega)
        have hli := like_ok l (by omega)
        have hC := Pieces_err r picks 3 l (fun _ => rfl) (fun h => absurd h hp)
        refine lim_by (fn := a8) (k := 3) (res := [.tmp 6]) rfl rfl rfl (by simp -implicitDefEqProofs (maxSteps := 2000000) (disch := first | exact tt_rfl rfl | omega | (simp only [go_sem] <;> omega) | fail) only [go_sem]) ?_
        simp -implicitDefEqProofs (maxSteps := 2000000) (disch := first | exact tt_rfl rfl | omega | (simp only [go_sem] <;> omega) | fail) only [go_sem]
        repeat (first | apply Wp.seqA | apply Wp.skipS | apply Wp.blockS | ((first | apply Wp.regS | apply Wp.condV | apply Wp.reg | apply Wp.condW | apply fin_ret); simp -implicitDefEqProofs (maxSteps := 2000000) (disch := first | exact tt_rfl rfl | omega | (simp only [go_sem] <;> omega) | fail) only [go_sem, hkn, hI1, hI2, c2, hcu, hli, hC] <;> try with_reducible rfl) | apply Wp.block | apply Wp.exitS | apply Wp.retS | apply Wp.exit | apply Wp.ret | apply Wp.skip)
  · rw [decide_eq_false hr] at hI1
    by_cases b2 : 12 < l.length
    · refine lim_by (fn := a8) (k := 3) (res := [.tmp 6]) rfl rfl rfl (by simp -implicitDefEqProofs (maxSteps := 2000000) (disch := first | exact tt_rfl rfl | omega | (simp only [go_sem] <;> omega) | fail) only [go_sem]) ?_
      simp -implicitDefEqProofs (maxSteps := 2000000) (disch := first | exact tt_rfl rfl | omega | (simp only [go_sem] <;> omega) | fail) only [go_sem]
      repeat (first | apply Wp.seqA | apply Wp.skipS | apply Wp.blockS | ((first | apply Wp.regS | apply Wp.condV | apply Wp.reg | apply Wp.condW | apply fin_ret); simp -implicitDefEqProofs (maxSteps := 2000000) (disch := first | exact tt_rfl rfl | omega | (simp only [go_sem] <;> omega) | fail) only [go_sem, hkn, hI1, show (12 : Int) < l.length by omega] <;> try with_reducible rfl) | apply Wp.block | apply Wp.exitS | apply Wp.retS | apply Wp.exit | apply Wp.ret | apply Wp.skip)
    · have c2 : ¬ (12 : Int) < l.length := by omega
      have hcu := cuts_ok l (by omega)
      have hli := like_ok l (by omega)
      have e3 : cutsE r [] l = 3 := by unfold cutsE; rw [if_pos hr]
      have hC := Pieces_err r picks 3 l (fun _ => rfl) (fun _ => by rw [e3]; exact ⟨by omega, rfl⟩)
      refine lim_by (fn := a8) (k := 3) (res := [.tmp 6]) rfl rfl rfl (by simp -implicitDefEqProofs (maxSteps := 2000000) (disch := first | exact tt_rfl rfl | omega | (simp only [go_sem] <;> omega) | fail) only [go_sem]) ?_
      simp -implicitDefEqProofs (maxSteps := 2000000) (disch := first | exact tt_rfl rfl | omega | (simp only [go_sem] <;> omega) | fail) only [go_sem]
      repeat (first | apply Wp.seqA | apply Wp.skipS | apply Wp.blockS | ((first | apply Wp.regS | apply Wp.condV | apply Wp.reg | apply Wp.condW | apply fin_ret); simp -implicitDefEqProofs (maxSteps := 2000000) (disch := first | exact tt_rfl rfl | omega | (simp only [go_sem] <;> omega) | fail) only [go_sem, hkn, hI1, c2, hcu, hli, hC] <;> try with_reducible rfl) | apply Wp.block | apply Wp.exitS | apply Wp.retS | apply Wp.exit | apply Wp.ret | apply Wp.skip)
end Go.Abs
