/-
  Chapter 6: turns, in plain Lean, and whether a weight pulls as it must. No condition beyond those that each theorem names.
-/
import Derived.Test.YtbmihapnaclidaaR4
set_option linter.all false
namespace Go.Abs
set_option maxRecDepth 10000
set_option maxHeartbeats 4000000

theorem held1_ok (r : RollA) (w k : Int) (h : LOk r w k) : lim F 59 [iv w, iv k, .iptr r.av 0] = some (.bool (decide (pulls r w k)), []) := by
  obtain ⟨h, w0, w1, k0, k1⟩ := h
  obtain ⟨a1, a2⟩ := around_in h k0 k1
  obtain ⟨h1, h2, h3, h4, h5⟩ := h
  have m1 := mul_in (a := w) (b := r.pulley) (by omega) w1 (by omega) h4.2
  have m2 := mul_in (a := r.plo) (b := r.around k) (by omega) (show r.plo ≤ 100000 by omega) (by omega) a2.2
  have m3 := mul_in (a := r.phi) (b := r.around k) (by omega) h5.2.2 (by omega) a2.2
  have e : r.core + k * r.thick = r.around k := rfl
  unfold RollA.av RollA.cells at *
  by_cases c1 : r.plo * r.around k ≤ w * r.pulley
  · by_cases c2 : w * r.pulley ≤ r.phi * r.around k
    · rw [decide_eq_true (show pulls r w k from ⟨c2, by unfold tooLow; omega⟩)]
      refine lim_by (fn := a59) (k := 3) (res := [.tmp 5]) rfl rfl rfl (by simp -implicitDefEqProofs (maxSteps := 2000000) (disch := first | exact tt_rfl rfl | omega | (simp only [go_sem] <;> omega) | fail) only [go_sem]) ?_
      simp -implicitDefEqProofs (maxSteps := 2000000) (disch := first | exact tt_rfl rfl | omega | (simp only [go_sem] <;> omega) | fail) only [go_sem]
      repeat (first | apply Wp.seqA | apply Wp.skipS | apply Wp.blockS | ((first | apply Wp.regS | apply Wp.condV | apply Wp.reg | apply Wp.condW | apply fin_ret); simp -implicitDefEqProofs (maxSteps := 2000000) (disch := first | exact tt_rfl rfl | omega | (simp only [go_sem] <;> omega) | fail) only [go_sem, e, c1, c2, ge_iff_le] <;> try with_reducible rfl) | apply Wp.block | apply Wp.exitS | apply Wp.retS | apply Wp.exit | apply Wp.ret | apply Wp.skip)
    · rw [decide_eq_false (fun h : pulls r w k => c2 h.1)]
      refine lim_by (fn := a59) (k := 3) (res := [.tmp 5]) rfl rfl rfl (by simp -implicitDefEqProofs (maxSteps := 2000000) (disch := first | exact tt_rfl rfl | omega | (simp only [go_sem] <;> omega) | fail) only [go_sem]) ?_
      simp -implicitDefEqProofs (maxSteps := 2000000) (disch := first | exact tt_rfl rfl | omega | (simp only [go_sem] <;> omega) | fail) only [go_sem]
      repeat (first | apply Wp.seqA | apply Wp.skipS | apply Wp.blockS | ((first | apply Wp.regS | apply Wp.condV | apply Wp.reg | apply Wp.condW | apply fin_ret); simp -implicitDefEqProofs (maxSteps := 2000000) (disch := first | exact tt_rfl rfl | omega | (simp only [go_sem] <;> omega) | fail) only [go_sem, e, c1, c2, ge_iff_le] <;> try with_reducible rfl) | apply Wp.block | apply Wp.exitS | apply Wp.retS | apply Wp.exit | apply Wp.ret | apply Wp.skip)
  · rw [decide_eq_false (fun h : pulls r w k => by have := h.2; unfold tooLow at this; omega)]
    refine lim_by (fn := a59) (k := 3) (res := [.tmp 5]) rfl rfl rfl (by simp -implicitDefEqProofs (maxSteps := 2000000) (disch := first | exact tt_rfl rfl | omega | (simp only [go_sem] <;> omega) | fail) only [go_sem]) ?_
    simp -implicitDefEqProofs (maxSteps := 2000000) (disch := first | exact tt_rfl rfl | omega | (simp only [go_sem] <;> omega) | fail) only [go_sem]
    repeat (first | apply Wp.seqA | apply Wp.skipS | apply Wp.blockS | ((first | apply Wp.regS | apply Wp.condV | apply Wp.reg | apply Wp.condW | apply fin_ret); simp -implicitDefEqProofs (maxSteps := 2000000) (disch := first | exact tt_rfl rfl | omega | (simp only [go_sem] <;> omega) | fail) only [go_sem, e, c1, ge_iff_le] <;> try with_reducible rfl) | apply Wp.block | apply Wp.exitS | apply Wp.retS | apply Wp.exit | apply Wp.ret | apply Wp.skip)

/-- turn by turn: each weight hangs up to the layer at which the next one hangs -/
theorem turns_at {hs : List HoldA} {N : Nat} (hc : Cover hs N) (hp : Pos hs) : ∀ n, n ≤ N → ∀ i (hi : i < (turnsW hs n).length), ∃ k, k < n ∧ (turnsW hs n)[i] = ⟨k, (pick hs k).w⟩ ∧ (i = 0 → k + 1 = n) ∧
    (∀ h : i + 1 < (turnsW hs n).length, (turnsW hs n)[i + 1].layer + 1 = (pick hs k).lo) ∧ (i + 1 = (turnsW hs n).length → (pick hs k).lo = 0) := by
  intro n
  induction n using Nat.strongRecOn with
  | ind n ih =>
    intro hn i hi
    match n, hn with
    | 0, _ => simp [turnsW_zero] at hi
    | n + 1, hn =>
      obtain ⟨e1, b1, b2⟩ := next_le hc hp (show n < N by omega)
      have ih' := ih (pick hs n).lo.toNat (by omega) (by omega)
      have es : turnsW hs (n + 1) = ⟨n, (pick hs n).w⟩ :: turnsW hs (pick hs n).lo.toNat := by rw [turnsW_succ, e1]
      generalize hT : turnsW hs (pick hs n).lo.toNat = T at *
      generalize turnsW hs (n + 1) = U at *
      subst es
      match i, hi with
      | 0, _ =>
        refine ⟨n, by omega, rfl, fun _ => rfl, fun h => ?_, fun h => ?_⟩
        · simp only [List.length_cons] at h
          obtain ⟨k, k1, k2, k3, _⟩ := ih' 0 (by omega)
          have := k3 rfl
          simp only [List.getElem_cons_succ]
          rw [k2]
          simp only
          omega
        · simp only [List.length_cons] at h
          have hz : T.length = 0 := by omega
          have hT0 : T = [] := List.eq_nil_of_length_eq_zero hz
          rw [hT0] at hT
          match hq : (pick hs n).lo.toNat with
          | 0 => omega
          | q + 1 => rw [hq, turnsW_succ] at hT; cases hT
      | i + 1, hi =>
        simp only [List.length_cons] at hi
        obtain ⟨k, k1, k2, k3, k4, k5⟩ := ih' i (by omega)
        refine ⟨k, by omega, by simpa using k2, fun h => by omega, fun h => ?_, fun h => ?_⟩
        · simp only [List.length_cons] at h
          have := k4 (by omega)
          simpa using this
        · simp only [List.length_cons] at h
          exact k5 (by omega)

/-- with more weights there are no more turns -/
theorem turns_more {hs hs' : List HoldA} {N : Nat} (hsub : ∀ h ∈ hs, h ∈ hs') (hc : Cover hs N) (hc' : Cover hs' N) (hp : Pos hs) (hp' : Pos hs') : ∀ n, n ≤ N → (turnsW hs' n).length ≤ (turnsW hs n).length := by
  intro n
  induction n using Nat.strongRecOn with
  | ind n ih =>
    intro hn
    match n, hn with
    | 0, _ => simp [turnsW_zero]
    | n + 1, hn =>
      obtain ⟨e1, b1, b2⟩ := next_le hc hp (show n < N by omega)
      obtain ⟨p1, p2, _⟩ := pick_mem (hc n (by omega))
      have h1 := (turns_best hc' hp' (show n < N by omega)).1 _ (hsub _ p1) p2
      have h2 := ih (pick hs n).lo.toNat (by omega) (by omega)
      rw [turnsW_succ hs n, List.length_cons, e1]
      omega
theorem someOn_sub {hs hs' : List HoldA} (hsub : ∀ h ∈ hs, h ∈ hs') {k : Int} (h : someOn hs k = true) : someOn hs' k = true := by
  obtain ⟨a, ha, hk⟩ := List.any_eq_true.1 h
  exact List.any_eq_true.2 ⟨a, hsub a ha, hk⟩
end Go.Abs
