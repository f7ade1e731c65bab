/-
  Chapter 6: search by halves. No condition beyond those that each theorem names.
-/
import Derived.Test.YthafpdlfdkddpaaG2
set_option linter.all false
namespace Go.Abs.Beam
set_option maxRecDepth 10000
set_option maxHeartbeats 1000000

/-- the first number at which p holds; N if there is none below N -/
def firstP (p : Nat → Bool) (N : Nat) : Nat := (List.range N).findIdx p
theorem firstP_le (p : Nat → Bool) (N : Nat) : firstP p N ≤ N := by
  have := List.findIdx_le_length (p := p) (xs := List.range N)
  simpa [firstP] using this
theorem firstP_no {p : Nat → Bool} {N i : Nat} (h : i < firstP p N) : p i = false := by
  have hl := firstP_le p N
  have := List.not_of_lt_findIdx (p := p) (xs := List.range N) (i := i) h
  simpa using this
theorem firstP_yes {p : Nat → Bool} {N : Nat} (h : firstP p N < N) : p (firstP p N) = true := by
  have := List.findIdx_getElem (p := p) (xs := List.range N) (w := by simpa [firstP] using h)
  simpa [firstP] using this
theorem firstP_eq {p : Nat → Bool} {N a : Nat} (ha : a ≤ N) (h1 : ∀ i, i < a → p i = false) (h2 : a < N → p a = true) : firstP p N = a := by
  have hl := firstP_le p N
  rcases Nat.lt_trichotomy (firstP p N) a with h | h | h
  · have := firstP_yes (p := p) (N := N) (by omega)
    rw [h1 _ h] at this
    cases this
  · exact h
  · have := firstP_no h
    rw [h2 (by omega)] at this
    cases this

theorem wrap_u64 {n : Int} (h1 : 0 ≤ n) (h2 : n < 18446744073709551616) : IntKind.wrap .u64 n = n := by
  simp [IntKind.wrap, IntKind.signed, IntKind.bits]; omega
theorem half_ok (a b : Nat) (h : a + b < 9000000000000000000) : IntKind.wrap .i64 (Int.fdiv (IntKind.wrap .u64 ((a : Int) + b)) (2 ^ min 1 (IntKind.bits .u64))) = (((a + b) / 2 : Nat) : Int) := by
  rw [wrap_u64 (by omega) (by omega), show min 1 (IntKind.bits .u64) = 1 from rfl, Int.fdiv_eq_ediv_of_nonneg _ (by omega), wrap_id]
  all_goals omega

theorem search2 (p : Nat → Bool) (N : Nat) (f : Nat) (x y : AV) (hN : N ≤ 10000000001)
    (mono : ∀ i j, i ≤ j → j < N → p i = true → p j = true) (hp : ∀ i : Nat, i < N → lim F f [iv i, .iptr x 0, .iptr y 0] = some (.bool (p i), [])) :
    lim F 50 [iv N, .func f [.iptr x 0, .iptr y 0]] = some (iv (firstP p N), []) := by
  refine lim_by (fn := a50) (k := 2) (res := [.tmp 4]) rfl rfl rfl (by simp -implicitDefEqProofs (maxSteps := 2000000) (disch := first | exact tt_rfl rfl | omega | (simp only [go_sem] <;> omega) | fail) only [go_sem]) ?_
  try delta mvA
  try delta opA
  try delta tA
  simp -implicitDefEqProofs (maxSteps := 2000000) (disch := first | exact tt_rfl rfl | omega | (simp only [go_sem] <;> omega) | fail) only [go_sem]
  repeat (first | apply Wp.seqA | apply Wp.skipS | apply Wp.blockS | ((first | apply Wp.regS | apply Wp.condV | apply Wp.reg | apply Wp.condW | apply fin_ret); simp -implicitDefEqProofs (maxSteps := 2000000) (disch := first | exact tt_rfl rfl | omega | (simp only [go_sem] <;> omega) | fail) only [go_sem] <;> try with_reducible rfl) | apply Wp.block | apply Wp.exitS | apply Wp.retS | apply Wp.exit | apply Wp.ret | apply Wp.skip)
  apply Wp.loopM (fun k fr => ∃ a b : Nat, fr = ⟨[(1, .func f [.iptr x 0, .iptr y 0]), (5, iv a), (6, iv b)], [], [], 10000000⟩ ∧ k = b - a ∧ a ≤ b ∧ b ≤ N ∧ (∀ i, i < a → p i = false) ∧ (∀ i, b ≤ i → i < N → p i = true))
  · simp -implicitDefEqProofs (maxSteps := 2000000) (disch := first | exact tt_rfl rfl | omega | (simp only [go_sem] <;> omega) | fail) only [go_sem, norm_eq, Ok.some]
    exact ⟨_, 0, N, rfl, rfl, by omega, by omega, fun i h => by omega, fun i h1 h2 => by omega⟩
  rintro k fr ⟨a, b, rfl, rfl, hab, hbN, h1, h2⟩
  by_cases h : a < b
  · have hc := hp ((a + b) / 2) (by omega)
    have hf := half_ok a b (by omega)
    generalize hm : (a + b) / 2 = m at hc hf
    cases hb : p m with
    | true =>
      rw [hb] at hc
      repeat (first | apply Wp.seqA | apply Wp.skipS | apply Wp.blockS | ((first | apply Wp.regS | apply Wp.condV | apply Wp.reg | apply Wp.condW | apply fin_ret); simp -implicitDefEqProofs (maxSteps := 2000000) (disch := first | exact tt_rfl rfl | omega | (simp only [go_sem] <;> omega) | fail) only [go_sem, h, Int.ofNat_lt, hf, hc] <;> try with_reducible rfl) | apply Wp.block | apply Wp.exitS | apply Wp.retS | apply Wp.exit | apply Wp.ret | apply Wp.skip)
      apply round_next (Q := fun _ _ => False)
      · simp -implicitDefEqProofs (maxSteps := 2000000) (disch := first | exact tt_rfl rfl | omega | (simp only [go_sem] <;> omega) | fail) only [go_sem, norm_eq, Ok.some]; with_reducible rfl
      exact ⟨m - a, by omega, a, m, rfl, rfl, by omega, by omega, h1, fun i g1 g2 => mono m i g1 g2 hb⟩
    | false =>
      rw [hb] at hc
      repeat (first | apply Wp.seqA | apply Wp.skipS | apply Wp.blockS | ((first | apply Wp.regS | apply Wp.condV | apply Wp.reg | apply Wp.condW | apply fin_ret); simp -implicitDefEqProofs (maxSteps := 2000000) (disch := first | exact tt_rfl rfl | omega | (simp only [go_sem] <;> omega) | fail) only [go_sem, h, Int.ofNat_lt, hf, hc] <;> try with_reducible rfl) | apply Wp.block | apply Wp.exitS | apply Wp.retS | apply Wp.exit | apply Wp.ret | apply Wp.skip)
      apply round_next (Q := fun _ _ => False)
      · simp -implicitDefEqProofs (maxSteps := 2000000) (disch := first | exact tt_rfl rfl | omega | (simp only [go_sem] <;> omega) | fail) only [go_sem, norm_eq, Ok.some]; with_reducible rfl
      refine ⟨b - (m + 1), by omega, m + 1, b, by simp, rfl, by omega, by omega, fun i hi => ?_, h2⟩
      by_cases e : i = m
      · subst e; exact hb
      · cases hpi : p i with
        | false => rfl
        | true => rw [mono i m (by omega) (by omega) hpi] at hb; cases hb
  · obtain rfl : a = b := by omega
    repeat (first | apply Wp.seqA | apply Wp.skipS | apply Wp.blockS | ((first | apply Wp.regS | apply Wp.condV | apply Wp.reg | apply Wp.condW | apply fin_ret); simp -implicitDefEqProofs (maxSteps := 2000000) (disch := first | exact tt_rfl rfl | omega | (simp only [go_sem] <;> omega) | fail) only [go_sem, Int.lt_irrefl] <;> try with_reducible rfl) | apply Wp.block | apply Wp.exitS | apply Wp.retS | apply Wp.exit | apply Wp.ret | apply Wp.skip)
    rw [firstP_eq (a := a) (by omega) h1 fun hl => h2 a (by omega) hl]

theorem search3 (p : Nat → Bool) (N : Nat) (f : Nat) (x y z : AV) (hN : N ≤ 10000000001)
    (mono : ∀ i j, i ≤ j → j < N → p i = true → p j = true) (hp : ∀ i : Nat, i < N → lim F f [iv i, .iptr x 0, .iptr y 0, .iptr z 0] = some (.bool (p i), [])) :
    lim F 50 [iv N, .func f [.iptr x 0, .iptr y 0, .iptr z 0]] = some (iv (firstP p N), []) := by
  refine lim_by (fn := a50) (k := 2) (res := [.tmp 4]) rfl rfl rfl (by simp -implicitDefEqProofs (maxSteps := 2000000) (disch := first | exact tt_rfl rfl | omega | (simp only [go_sem] <;> omega) | fail) only [go_sem]) ?_
  try delta mvA
  try delta opA
  try delta tA
  simp -implicitDefEqProofs (maxSteps := 2000000) (disch := first | exact tt_rfl rfl | omega | (simp only [go_sem] <;> omega) | fail) only [go_sem]
  repeat (first | apply Wp.seqA | apply Wp.skipS | apply Wp.blockS | ((first | apply Wp.regS | apply Wp.condV | apply Wp.reg | apply Wp.condW | apply fin_ret); simp -implicitDefEqProofs (maxSteps := 2000000) (disch := first | exact tt_rfl rfl | omega | (simp only [go_sem] <;> omega) | fail) only [go_sem] <;> try with_reducible rfl) | apply Wp.block | apply Wp.exitS | apply Wp.retS | apply Wp.exit | apply Wp.ret | apply Wp.skip)
  apply Wp.loopM (fun k fr => ∃ a b : Nat, fr = ⟨[(1, .func f [.iptr x 0, .iptr y 0, .iptr z 0]), (5, iv a), (6, iv b)], [], [], 10000000⟩ ∧ k = b - a ∧ a ≤ b ∧ b ≤ N ∧ (∀ i, i < a → p i = false) ∧ (∀ i, b ≤ i → i < N → p i = true))
  · simp -implicitDefEqProofs (maxSteps := 2000000) (disch := first | exact tt_rfl rfl | omega | (simp only [go_sem] <;> omega) | fail) only [go_sem, norm_eq, Ok.some]
    exact ⟨_, 0, N, rfl, rfl, by omega, by omega, fun i h => by omega, fun i h1 h2 => by omega⟩
  rintro k fr ⟨a, b, rfl, rfl, hab, hbN, h1, h2⟩
  by_cases h : a < b
  · have hc := hp ((a + b) / 2) (by omega)
    have hf := half_ok a b (by omega)
    generalize hm : (a + b) / 2 = m at hc hf
    cases hb : p m with
    | true =>
      rw [hb] at hc
      repeat (first | apply Wp.seqA | apply Wp.skipS | apply Wp.blockS | ((first | apply Wp.regS | apply Wp.condV | apply Wp.reg | apply Wp.condW | apply fin_ret); simp -implicitDefEqProofs (maxSteps := 2000000) (disch := first | exact tt_rfl rfl | omega | (simp only [go_sem] <;> omega) | fail) only [go_sem, h, Int.ofNat_lt, hf, hc] <;> try with_reducible rfl) | apply Wp.block | apply Wp.exitS | apply Wp.retS | apply Wp.exit | apply Wp.ret | apply Wp.skip)
      apply round_next (Q := fun _ _ => False)
      · simp -implicitDefEqProofs (maxSteps := 2000000) (disch := first | exact tt_rfl rfl | omega | (simp only [go_sem] <;> omega) | fail) only [go_sem, norm_eq, Ok.some]; with_reducible rfl
      exact ⟨m - a, by omega, a, m, rfl, rfl, by omega, by omega, h1, fun i g1 g2 => mono m i g1 g2 hb⟩
    | false =>
      rw [hb] at hc
      repeat (first | apply Wp.seqA | apply Wp.skipS | apply Wp.blockS | ((first | apply Wp.regS | apply Wp.condV | apply Wp.reg | apply Wp.condW | apply fin_ret); simp -implicitDefEqProofs (maxSteps := 2000000) (disch := first | exact tt_rfl rfl | omega | (simp only [go_sem] <;> omega) | fail) only [go_sem, h, Int.ofNat_lt, hf, hc] <;> try with_reducible rfl) | apply Wp.block | apply Wp.exitS | apply Wp.retS | apply Wp.exit | apply Wp.ret | apply Wp.skip)
      apply round_next (Q := fun _ _ => False)
      · simp -implicitDefEqProofs (maxSteps := 2000000) (disch := first | exact tt_rfl rfl | omega | (simp only [go_sem] <;> omega) | fail) only [go_sem, norm_eq, Ok.some]; with_reducible rfl
      refine ⟨b - (m + 1), by omega, m + 1, b, by simp, rfl, by omega, by omega, fun i hi => ?_, h2⟩
      by_cases e : i = m
      · subst e; exact hb
      · cases hpi : p i with
        | false => rfl
        | true => rw [mono i m (by omega) (by omega) hpi] at hb; cases hb
  · obtain rfl : a = b := by omega
    repeat (first | apply Wp.seqA | apply Wp.skipS | apply Wp.blockS | ((first | apply Wp.regS | apply Wp.condV | apply Wp.reg | apply Wp.condW | apply fin_ret); simp -implicitDefEqProofs (maxSteps := 2000000) (disch := first | exact tt_rfl rfl | omega | (simp only [go_sem] <;> omega) | fail) only [go_sem, Int.lt_irrefl] <;> try with_reducible rfl) | apply Wp.block | apply Wp.exitS | apply Wp.retS | apply Wp.exit | apply Wp.ret | apply Wp.skip)
    rw [firstP_eq (a := a) (by omega) h1 fun hl => h2 a (by omega) hl]
end Go.Abs.Beam
