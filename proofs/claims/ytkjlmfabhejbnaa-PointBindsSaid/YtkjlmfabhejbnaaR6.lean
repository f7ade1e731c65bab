/-
  The length of a float, as the document tells it. No condition beyond those that each theorem names.
-/
import Derived.Test.YtkjlmfabhejbnaaP3
set_option linter.all false
namespace Go.Abs
set_option maxRecDepth 10000
set_option maxHeartbeats 4000000

theorem Length_ok (l : List Bool) (i : Nat) (hi : i < l.length) (hl : l.length ≤ 1000) : lim F 63 [ringV l, iv (i : Int)] = some (iv ((lengthT l i : Nat) : Int), []) := by
  have g1 := ring_at hi
  have g2 := ring_get (l := l) (i := i + l.length - 1) (by omega)
  have e : Int.tmod ((i : Int) + l.length - 1) (l.length : Int) = (((i + l.length - 1) % l.length : Nat) : Int) := by
    rw [show (i : Int) + l.length - 1 = ((i + l.length - 1 : Nat) : Int) by omega, Int.tmod_eq_emod_of_nonneg (Int.natCast_nonneg _)]; simp
  have hm := Nat.mod_lt (i + l.length - 1) (show 0 < l.length by omega)
  have hlen : (l.map fun b => AV.bool b).length = l.length := by simp
  have hA := fun (i : Nat) (hi : i < l.length) => ring_at hi
  have hG := fun (i : Nat) => ring_get (l := l) (i := i) (by omega)
  have hb : begs l i = (gb l i != gb l (i + l.length - 1)) := rfl
  have hend := endless_iff (l := l) (by omega)
  change anyTo l l.length = false ↔ _ at hend
  unfold ringV
  generalize l.map (fun b => AV.bool b) = es at *
  generalize (i + l.length - 1) % l.length = m at *
  cases hbe : begs l i with
  | true =>
    have hL := lenT_is hbe
    have hs := hL.same
    have ho := hL.other
    have hpos := hL.pos
    have hll : lengthT l i = lenT l i := by unfold lengthT; rw [hbe, if_pos rfl]
    have e0 : (gb l (i + l.length - 1) == gb l i) = false := by
      rw [hbe] at hb
      have : gb l i ≠ gb l (i + l.length - 1) := by simpa using hb.symm
      simpa using fun e => this e.symm
    rw [hll]
    have hlt := hL.lt
    generalize lenT l i = n at *
    refine lim_by (fn := a63) (k := 2) (res := [.tmp 4]) rfl rfl rfl (by simp -implicitDefEqProofs (maxSteps := 2000000) (disch := first | exact tt_rfl rfl | omega | (simp only [go_sem] <;> omega) | fail) only [go_sem]) ?_
    simp -implicitDefEqProofs (maxSteps := 2000000) (disch := first | exact tt_rfl rfl | omega | (simp only [go_sem] <;> omega) | fail) only [go_sem]
    repeat (first | apply Wp.seqA | apply Wp.skipS | apply Wp.blockS | ((first | apply Wp.regS | apply Wp.condV | apply Wp.reg | apply Wp.condW | apply fin_ret); simp -implicitDefEqProofs (maxSteps := 2000000) (disch := first | exact tt_rfl rfl | omega | (simp only [go_sem] <;> omega) | fail) only [go_sem, hlen, g1, g2, e, e0, Int.toNat_natCast, show (l.length : Int) ≠ 0 by omega] <;> try with_reducible rfl) | apply Wp.block | apply Wp.exitS | apply Wp.retS | apply Wp.exit | apply Wp.ret | apply Wp.skip)
    apply Wp.loopF (n - 1) (fun k => ⟨[(0, .list 1 es), (1, iv (i : Int)), (5, iv (l.length : Int)), (7, iv ((k + 1 : Nat) : Int))], [], [], 10000000⟩) (fun _ => True)
    · simp -implicitDefEqProofs (maxSteps := 2000000) (disch := first | exact tt_rfl rfl | omega | (simp only [go_sem] <;> omega) | fail) only [go_sem, norm_eq, Ok.some]
      rfl
    · trivial
    intro k hk _
    have hm2 := Nat.mod_lt (i + (k + 1)) (show 0 < l.length by omega)
    have g3 := hG (i + (k + 1))
    have e2 : Int.tmod ((i : Int) + ((k + 1 : Nat) : Int)) (l.length : Int) = (((i + (k + 1)) % l.length : Nat) : Int) := by
      rw [show (i : Int) + ((k + 1 : Nat) : Int) = ((i + (k + 1) : Nat) : Int) by omega, Int.tmod_eq_emod_of_nonneg (Int.natCast_nonneg _)]; simp
    generalize (i + (k + 1)) % l.length = m2 at *
    by_cases h : k < n - 1
    · have e3 : (gb l (i + (k + 1)) == gb l i) = true := by rw [hs (k + 1) (by omega)]; simp
      repeat (first | apply Wp.seqA | apply Wp.skipS | apply Wp.blockS | ((first | apply Wp.regS | apply Wp.condV | apply Wp.reg | apply Wp.condW | apply fin_ret); simp -implicitDefEqProofs (maxSteps := 2000000) (disch := first | exact tt_rfl rfl | omega | (simp only [go_sem] <;> omega) | fail) only [go_sem, hlen, g1, g3, e2, e3, Int.toNat_natCast, show (l.length : Int) ≠ 0 by omega] <;> try with_reducible rfl) | apply Wp.block | apply Wp.exitS | apply Wp.retS | apply Wp.exit | apply Wp.ret | apply Wp.skip)
      apply block_norm
      apply round_next
      · simp -implicitDefEqProofs (maxSteps := 2000000) (disch := first | exact tt_rfl rfl | omega | (simp only [go_sem] <;> omega) | fail) only [go_sem, norm_eq, Ok.some]; with_reducible rfl
      exact ⟨h, by simp, trivial⟩
    · obtain rfl : n = k + 1 := by omega
      have e3 : (gb l (i + (k + 1)) == gb l i) = false := beq_eq_false_iff_ne.2 ho
      repeat (first | apply Wp.seqA | apply Wp.skipS | apply Wp.blockS | ((first | apply Wp.regS | apply Wp.condV | apply Wp.reg | apply Wp.condW | apply fin_ret); simp -implicitDefEqProofs (maxSteps := 2000000) (disch := first | exact tt_rfl rfl | omega | (simp only [go_sem] <;> omega) | fail) only [go_sem, hlen, g1, g3, e2, e3, Int.toNat_natCast, show (l.length : Int) ≠ 0 by omega] <;> try with_reducible rfl) | apply Wp.block | apply Wp.exitS | apply Wp.retS | apply Wp.exit | apply Wp.ret | apply Wp.skip)
  | false =>
    have e0 : (gb l (i + l.length - 1) == gb l i) = true := by
      rw [hbe] at hb
      have : gb l i = gb l (i + l.length - 1) := by simpa using hb.symm
      rw [this]; simp
    have hll : lengthT l i = if anyTo l l.length then 0 else if i = 0 then 1000 else 0 := by unfold lengthT; rw [hbe, if_neg (by simp)]
    rw [hll]
    refine lim_by (fn := a63) (k := 2) (res := [.tmp 4]) rfl rfl rfl (by simp -implicitDefEqProofs (maxSteps := 2000000) (disch := first | exact tt_rfl rfl | omega | (simp only [go_sem] <;> omega) | fail) only [go_sem]) ?_
    simp -implicitDefEqProofs (maxSteps := 2000000) (disch := first | exact tt_rfl rfl | omega | (simp only [go_sem] <;> omega) | fail) only [go_sem]
    repeat (first | apply Wp.seqA | apply Wp.skipS | apply Wp.blockS | ((first | apply Wp.regS | apply Wp.condV | apply Wp.reg | apply Wp.condW | apply fin_ret); simp -implicitDefEqProofs (maxSteps := 2000000) (disch := first | exact tt_rfl rfl | omega | (simp only [go_sem] <;> omega) | fail) only [go_sem, hlen, g1, g2, e, e0, Int.toNat_natCast, show (l.length : Int) ≠ 0 by omega] <;> try with_reducible rfl) | apply Wp.block | apply Wp.exitS | apply Wp.retS | apply Wp.exit | apply Wp.ret | apply Wp.skip)
    apply Wp.loopF l.length (fun k => ⟨[(0, .list 1 es), (1, iv (i : Int)), (5, iv (l.length : Int)), (6, iv (k : Int))], [], [], 10000000⟩) (fun k => ∀ q, q < k → gb l q = gb l i)
    · simp -implicitDefEqProofs (maxSteps := 2000000) (disch := first | exact tt_rfl rfl | omega | (simp only [go_sem] <;> omega) | fail) only [go_sem, norm_eq, Ok.some]
      try rfl
    · intro q h; omega
    intro k hk hq
    by_cases h : k < l.length
    · have g3 := hA k h
      by_cases hx : gb l k = gb l i
      · repeat (first | apply Wp.seqA | apply Wp.skipS | apply Wp.blockS | ((first | apply Wp.regS | apply Wp.condV | apply Wp.reg | apply Wp.condW | apply fin_ret); simp -implicitDefEqProofs (maxSteps := 2000000) (disch := first | exact tt_rfl rfl | omega | (simp only [go_sem] <;> omega) | fail) only [go_sem, hlen, g1, g3, h, hx, Int.ofNat_lt, bne_self_eq_false, Int.toNat_natCast] <;> try with_reducible rfl) | apply Wp.block | apply Wp.exitS | apply Wp.retS | apply Wp.exit | apply Wp.ret | apply Wp.skip)
        apply round_next
        · simp -implicitDefEqProofs (maxSteps := 2000000) (disch := first | exact tt_rfl rfl | omega | (simp only [go_sem] <;> omega) | fail) only [go_sem, norm_eq, Ok.some]; with_reducible rfl
        refine ⟨h, by simp, fun q hq' => ?_⟩
        by_cases e : q = k
        · subst e; exact hx
        · exact hq q (by omega)
      · have hx' : (gb l k == gb l i) = false := beq_eq_false_iff_ne.2 hx
        have ha : anyTo l l.length = true := by
          cases ha : anyTo l l.length with
          | true => rfl
          | false => exact absurd (by rw [hend.1 ha k, hend.1 ha i]) hx
        repeat (first | apply Wp.seqA | apply Wp.skipS | apply Wp.blockS | ((first | apply Wp.regS | apply Wp.condV | apply Wp.reg | apply Wp.condW | apply fin_ret); simp -implicitDefEqProofs (maxSteps := 2000000) (disch := first | exact tt_rfl rfl | omega | (simp only [go_sem] <;> omega) | fail) only [go_sem, hlen, g1, g3, h, hx', Int.ofNat_lt, show (false != true) = true from rfl, Int.toNat_natCast] <;> try with_reducible rfl) | apply Wp.block | apply Wp.exitS | apply Wp.retS | apply Wp.exit | apply Wp.ret | apply Wp.skip)
        rw [ha, if_pos rfl]
        rfl
    · have ha : anyTo l l.length = false := hend.2 fun j => by
        rw [← gb_mod l j, hq _ (by have := Nat.mod_lt j (show 0 < l.length by omega); omega), hq 0 (by omega)]
      rw [ha, if_neg (by simp)]
      by_cases h0 : i = 0
      · subst h0
        repeat (first | apply Wp.seqA | apply Wp.skipS | apply Wp.blockS | ((first | apply Wp.regS | apply Wp.condV | apply Wp.reg | apply Wp.condW | apply fin_ret); simp -implicitDefEqProofs (maxSteps := 2000000) (disch := first | exact tt_rfl rfl | omega | (simp only [go_sem] <;> omega) | fail) only [go_sem, h, Int.ofNat_lt] <;> try with_reducible rfl) | apply Wp.block | apply Wp.exitS | apply Wp.retS | apply Wp.exit | apply Wp.ret | apply Wp.skip)
        try rfl
      · rw [if_neg h0]
        repeat (first | apply Wp.seqA | apply Wp.skipS | apply Wp.blockS | ((first | apply Wp.regS | apply Wp.condV | apply Wp.reg | apply Wp.condW | apply fin_ret); simp -implicitDefEqProofs (maxSteps := 2000000) (disch := first | exact tt_rfl rfl | omega | (simp only [go_sem] <;> omega) | fail) only [go_sem, h, Int.ofNat_lt, show ¬ (i : Int) = 0 by omega] <;> try with_reducible rfl) | apply Wp.block | apply Wp.exitS | apply Wp.retS | apply Wp.exit | apply Wp.ret | apply Wp.skip)
        try rfl

end Go.Abs
