/-
  What a take-up and its figures are like, in bytes, and picks that are all alike. No condition beyond those that each theorem names.
-/
import Derived.Test.YtmfbeemalfpbjaaG6
import Derived.Test.YtmfbeemalfpbjaaS5
import Derived.Test.YtmfbeemalfpbjaaArms
import Derived.Test.YtmfbeemalfpbjaaFlat
set_option linter.all false
namespace Go.Abs
set_option maxRecDepth 10000
set_option maxHeartbeats 2000000
open Go.Abs.Beam (TakeA PairT checkT longT longR nT dT tmod_nat tdiv_nat)

structure GearB where
  rat : Fin 256
  dr : Fin 256
  dn : Fin 256
  round : Fin 65536
  r0 : Fin 256
  r1 : Fin 256
def GearB.av (x : GearB) : AV := .agg [.int .u8 (x.rat.1 : Int), .int .u8 (x.dr.1 : Int), .int .u8 (x.dn.1 : Int), .int .u16 (x.round.1 : Int), .int .u8 (x.r0.1 : Int), .int .u8 (x.r1.1 : Int)]
def GearB.t (x : GearB) : TakeA := ⟨20 + (x.rat.1 % 80 : Nat), 1, [⟨10 + (x.dr.1 % 30 : Nat), 40 + (x.dn.1 % 60 : Nat)⟩], 20000 + x.round.1⟩
def GearB.lo (x : GearB) : Int := (x.r0.1 % 100 : Nat)
def GearB.hi (x : GearB) : Int := x.lo + (x.r1.1 % 100 : Nat)
theorem GearB.span (x : GearB) : 0 ≤ x.lo ∧ x.lo ≤ x.hi ∧ x.hi ≤ 198 := by unfold GearB.hi GearB.lo; omega
theorem gearB_ok (x : GearB) : checkT x.t = 0 := by
  have h := x.round.2
  unfold checkT
  rw [if_neg (by simp [GearB.t]), if_pos]
  refine ⟨⟨by simp only [GearB.t]; omega, by simp only [GearB.t]; omega, by simp only [GearB.t]; omega⟩, fun p hp => ?_⟩
  rw [List.mem_singleton.1 hp]
  exact ⟨by simp only; omega, by simp only; omega⟩
/-- how much the wheels take up at least, and at most -/
theorem gearB_bound (x : GearB) : (20 * dT x.t ≤ nT x.t) ∧ (1 ≤ nT x.t ∧ nT x.t ≤ 3335865) ∧ 1 ≤ dT x.t ∧ dT x.t ≤ 9801 := by
  have hc := gearB_ok x
  have hg := Beam.gT_pos hc
  have h := x.round.2
  have nb := Beam.nT_bound hc
  obtain ⟨a, ha⟩ : Beam.gT x.t ∣ (Beam.numT x.t).toNat := Nat.gcd_dvd_left _ _
  obtain ⟨b, hb⟩ : Beam.gT x.t ∣ (Beam.denT x.t).toNat := Nat.gcd_dvd_right _ _
  have ea : nT x.t = a := by unfold nT; rw [ha, Nat.mul_div_cancel_left _ hg]
  have eb : dT x.t = b := by unfold dT; rw [hb, Nat.mul_div_cancel_left _ hg]
  have mb := Beam.numT_bound hc
  have e1 : Beam.numT x.t = (20000 + (x.round.1 : Int)) * (10 + (x.dr.1 % 30 : Nat)) := by simp [Beam.numT, Beam.numP, GearB.t]
  have e2 : Beam.denT x.t = (20 + ((x.rat.1 % 80 : Nat) : Int)) * (40 + (x.dn.1 % 60 : Nat)) := by simp [Beam.denT, Beam.denP, GearB.t]
  have m1 := Beam.prod_bound (a := 20000 + (x.round.1 : Int)) (b := 10 + ((x.dr.1 % 30 : Nat) : Int)) (A := 85535) (B := 39) (by omega) (by omega) (by omega) (by omega)
  have m2 := Beam.prod_bound (a := 20 + ((x.rat.1 % 80 : Nat) : Int)) (b := 40 + ((x.dn.1 % 60 : Nat) : Int)) (A := 99) (B := 99) (by omega) (by omega) (by omega) (by omega)
  have m3 : 20000 * 10 ≤ (20000 + (x.round.1 : Int)) * (10 + ((x.dr.1 % 30 : Nat) : Int)) := Int.mul_le_mul (by omega) (by omega) (by omega) (by omega)
  rw [← e1] at m1 m3
  rw [← e2] at m2
  have h1 : a ≤ (Beam.numT x.t).toNat := by rw [ha]; exact Nat.le_mul_of_pos_left _ hg
  have h2 : b ≤ (Beam.denT x.t).toNat := by rw [hb]; exact Nat.le_mul_of_pos_left _ hg
  have h3 : 20 * (Beam.denT x.t).toNat ≤ (Beam.numT x.t).toNat := by omega
  have h4 : 20 * b ≤ a := by
    rw [ha, hb, Nat.mul_left_comm] at h3
    exact Nat.le_of_mul_le_mul_left h3 hg
  rw [ea, eb] at nb ⊢
  omega

theorem armSpan_ok (a b : Int) : lim F 13 [iv a, iv b] = some (.agg [iv a, iv b], []) := by
  refine lim_by (fn := a13) (k := 2) (res := [.cell 4 2 true]) rfl rfl rfl (by simp -implicitDefEqProofs (maxSteps := 2000000) (disch := first | exact tt_rfl rfl | omega | (simp only [go_sem] <;> omega) | fail) only [go_sem]) ?_
  simp -implicitDefEqProofs (maxSteps := 2000000) (disch := first | exact tt_rfl rfl | omega | (simp only [go_sem] <;> omega) | fail) only [go_sem]
  repeat (first | apply Wp.seqA | apply Wp.skipS | apply Wp.blockS | ((first | apply Wp.regS | apply Wp.condV | apply Wp.reg | apply Wp.condW | apply fin_ret); simp -implicitDefEqProofs (maxSteps := 2000000) (disch := first | exact tt_rfl rfl | omega | (simp only [go_sem] <;> omega) | fail) only [go_sem] <;> try with_reducible rfl) | apply Wp.block | apply Wp.exitS | apply Wp.retS | apply Wp.exit | apply Wp.ret | apply Wp.skip)
theorem armTake_ok (x : GearB) : lim F 5 [x.av] = some (.tuple [.agg [iv x.t.rat, iv x.t.step, .own 2 (x.t.pairs.map PairT.av), iv x.t.round], .agg [iv x.lo, iv x.hi]], []) := by
  have hs := armSpan_ok x.lo x.hi
  have q0 := x.rat.2
  have q1 := x.dr.2
  have q2 := x.dn.2
  have q3 := x.round.2
  have q4 := x.r0.2
  have q5 := x.r1.2
  have e0 := tmod_nat x.rat.1 80
  have e1 := tmod_nat x.dr.1 30
  have e2 := tmod_nat x.dn.1 60
  have e4 := tmod_nat x.r0.1 100
  have e5 := tmod_nat x.r1.1 100
  rw [show ((80 : Nat) : Int) = 80 from rfl] at e0
  rw [show ((30 : Nat) : Int) = 30 from rfl] at e1
  rw [show ((60 : Nat) : Int) = 60 from rfl] at e2
  rw [show ((100 : Nat) : Int) = 100 from rfl] at e4 e5
  unfold GearB.hi GearB.lo at *
  unfold GearB.av GearB.t
  refine lim_by (fn := a5) (k := 1) (res := [.cell 2 4 true, .cell 3 2 true]) rfl rfl rfl (by simp -implicitDefEqProofs (maxSteps := 2000000) (disch := first | exact tt_rfl rfl | omega | (simp only [go_sem] <;> omega) | fail) only [go_sem]) ?_
  simp -implicitDefEqProofs (maxSteps := 2000000) (disch := first | exact tt_rfl rfl | omega | (simp only [go_sem] <;> omega) | fail) only [go_sem]
  repeat (first | apply Wp.seqA | apply Wp.skipS | apply Wp.blockS | ((first | apply Wp.regS | apply Wp.condV | apply Wp.reg | apply Wp.condW | apply fin_ret); simp -implicitDefEqProofs (maxSteps := 2000000) (disch := first | exact tt_rfl rfl | omega | (simp only [go_sem] <;> omega) | fail) only [go_sem, e0, e1, e2, e4, e5, hs, PairT.av.eq_1] <;> try with_reducible rfl) | apply Wp.block | apply Wp.exitS | apply Wp.retS | apply Wp.exit | apply Wp.ret | apply Wp.skip)

def widLo (x : GearB) : Int := nT x.t * (1000 - x.hi) / (1000 * dT x.t)
def widHi (x : GearB) : Int := (nT x.t * (1000 - x.lo) + 1000 * dT x.t - 1) / (1000 * dT x.t)
theorem armWidth_ok (x : GearB) : lim F 7 [.agg [iv (nT x.t), iv (dT x.t)], .agg [iv x.lo, iv x.hi]] = some (.agg [iv (max 1 (widLo x)), iv (max 1 (widHi x))], []) := by
  obtain ⟨b0, b1, b2⟩ := gearB_bound x
  have hs := x.span
  have m1 : 0 ≤ nT x.t * (1000 - x.hi) := Int.mul_nonneg (by omega) (by omega)
  have m2 : nT x.t * (1000 - x.hi) ≤ 3335865 * 1000 := Int.mul_le_mul (by omega) (by omega) (by omega) (by omega)
  have m3 : 0 ≤ nT x.t * (1000 - x.lo) := Int.mul_nonneg (by omega) (by omega)
  have m4 : nT x.t * (1000 - x.lo) ≤ 3335865 * 1000 := Int.mul_le_mul (by omega) (by omega) (by omega) (by omega)
  have e1 : Int.tdiv (nT x.t * (1000 - x.hi)) (1000 * dT x.t) = widLo x := Int.tdiv_eq_ediv_of_nonneg m1
  have e2 : Int.tdiv (nT x.t * (1000 - x.lo) + 1000 * dT x.t - 1) (1000 * dT x.t) = widHi x := Int.tdiv_eq_ediv_of_nonneg (by omega)
  have h1 : 0 ≤ widLo x := Int.ediv_nonneg m1 (by omega)
  have h2 : widLo x ≤ nT x.t * (1000 - x.hi) := Int.ediv_le_self _ m1
  have h3 : 0 ≤ widHi x := Int.ediv_nonneg (by omega) (by omega)
  have h4 : widHi x ≤ nT x.t * (1000 - x.lo) + 1000 * dT x.t - 1 := Int.ediv_le_self _ (by omega)
  have hs1 := armSpan_ok (max 1 (widLo x)) (max 1 (widHi x))
  generalize widLo x = wl at *
  generalize widHi x = wh at *
  refine lim_by (fn := a7) (k := 2) (res := [.cell 4 2 true]) rfl rfl rfl (by simp -implicitDefEqProofs (maxSteps := 2000000) (disch := first | exact tt_rfl rfl | omega | (simp only [go_sem] <;> omega) | fail) only [go_sem]) ?_
  simp -implicitDefEqProofs (maxSteps := 2000000) (disch := first | exact tt_rfl rfl | omega | (simp only [go_sem] <;> omega) | fail) only [go_sem]
  repeat (first | apply Wp.seqA | apply Wp.skipS | apply Wp.blockS | ((first | apply Wp.regS | apply Wp.condV | apply Wp.reg | apply Wp.condW | apply fin_ret); simp -implicitDefEqProofs (maxSteps := 2000000) (disch := first | exact tt_rfl rfl | omega | (simp only [go_sem] <;> omega) | fail) only [go_sem, e1, e2, hs1, show 1000 * dT x.t ≠ 0 by omega] <;> try with_reducible rfl) | apply Wp.block | apply Wp.exitS | apply Wp.retS | apply Wp.exit | apply Wp.ret | apply Wp.skip)
theorem wid_le (x : GearB) : widLo x ≤ widHi x ∧ 1 ≤ widHi x ∧ widHi x ≤ 3346000000 := by
  obtain ⟨b0, b1, b2⟩ := gearB_bound x
  have hs := x.span
  have m1 : nT x.t * (1000 - x.hi) ≤ nT x.t * (1000 - x.lo) := Int.mul_le_mul_of_nonneg_left (by omega) (by omega)
  have m3 : 1 * 1 ≤ nT x.t * (1000 - x.lo) := Int.mul_le_mul (by omega) (by omega) (by omega) (by omega)
  have m4 : nT x.t * (1000 - x.lo) ≤ 3335865 * 1000 := Int.mul_le_mul (by omega) (by omega) (by omega) (by omega)
  have h4 : widHi x ≤ nT x.t * (1000 - x.lo) + 1000 * dT x.t - 1 := Int.ediv_le_self _ (by omega)
  refine ⟨Int.ediv_le_ediv (by omega) (by omega), Int.le_ediv_of_mul_le (by omega) (by omega), ?_⟩
  omega
/-- a figure ends where edges can lie -/
theorem fig_hi (x : GearB) (i : Int) (hi : 0 ≤ i) : longT x.t i x.lo ≤ i * widHi x := by
  obtain ⟨b0, b1, b2⟩ := gearB_bound x
  have h : nT x.t * (1000 - x.lo) ≤ widHi x * (1000 * dT x.t) := by
    have := Int.lt_ediv_add_one_mul_self (nT x.t * (1000 - x.lo) + 1000 * dT x.t - 1) (show 0 < 1000 * dT x.t by omega)
    change _ < (widHi x + 1) * _ at this
    rw [Int.add_mul, Int.one_mul] at this
    omega
  unfold longT longR
  apply Int.ediv_le_of_le_mul (by omega)
  rw [Int.mul_assoc, Int.mul_assoc, show dT x.t * 1000 = 1000 * dT x.t by omega]
  exact Int.mul_le_mul_of_nonneg_left h hi
theorem fig_lo (x : GearB) (i : Int) (hi : 0 ≤ i) : i * widLo x ≤ longT x.t i x.hi := by
  obtain ⟨b0, b1, b2⟩ := gearB_bound x
  have h : widLo x * (1000 * dT x.t) ≤ nT x.t * (1000 - x.hi) := Int.ediv_mul_le _ (by omega)
  unfold longT longR
  apply Int.le_ediv_of_mul_le (by omega)
  rw [Int.mul_assoc, Int.mul_assoc, show dT x.t * 1000 = 1000 * dT x.t by omega]
  exact Int.mul_le_mul_of_nonneg_left h hi

/-! ### Picks that are all alike -/

theorem pre_rep (s : Span) (n : Nat) : ∀ i, i ≤ n → pre (List.replicate n s) i = ⟨i * s.lo, i * s.hi⟩
  | 0, _ => by simp [pre]
  | i + 1, h => by
    rw [pre_succ (by simp; omega), pre_rep s n i (by omega)]
    simp only [List.getElem_replicate, Span.add, Span.mk.injEq]
    constructor
    · rw [Int.natCast_add, Int.add_mul]; omega
    · rw [Int.natCast_add, Int.add_mul]; omega
theorem seg_rep (s : Span) (n p q : Nat) (h : q ≤ n) : seg (List.replicate n s) p q = List.replicate (q - p) s := by
  unfold seg
  rw [List.drop_replicate, List.take_replicate]
  congr 1
  omega

/-- with marks at edges nothing contradicts: each way as far as the other one -/
theorem sym_go (d : Int) (hd : 0 ≤ d) (n : Nat) : ∀ (ts : List Int) (f : Nat), f ≤ n → Up n f ts → ∃ T, aheadGo (List.replicate n ⟨-d, d⟩) f ts = some T ∧ T.length = n - f + 1 ∧ ∀ (i : Nat) x, T[i]? = some x → x.lo = -x.hi ∧ 0 ≤ x.hi ∧ x.hi ≤ i * d
  | [], f, hf, _ => by
    refine ⟨_, rfl, by simp [sumsL], fun i x hx => ?_⟩
    rw [List.drop_replicate] at hx
    unfold sumsL at hx
    rw [List.getElem?_map, List.length_replicate] at hx
    by_cases hi : i < n - f + 1
    · rw [List.getElem?_range hi, Option.map_some, Option.some.injEq, pre_rep _ _ i (by omega)] at hx
      subst hx
      have := Int.mul_nonneg (show (0 : Int) ≤ i by omega) hd
      refine ⟨?_, this, Int.le_refl _⟩
      simp only
      rw [Int.mul_neg]
    · rw [List.getElem?_eq_none (by simpa using hi)] at hx
      cases hx
  | t :: ts, f, hf, hu => by
    obtain ⟨u1, u2, u3⟩ := hu
    obtain ⟨q, rfl⟩ : ∃ q : Nat, t = q := ⟨t.toNat, by omega⟩
    have hq : f < q ∧ q ≤ n := by omega
    obtain ⟨T, h1, h2, h3⟩ := sym_go d hd n ts q (by omega) u3
    have hseg := seg_rep ⟨-d, d⟩ n f q (by omega)
    have hp := pre_rep ⟨-d, d⟩ (q - f) (q - f) (Nat.le_refl _)
    have hnn := Int.mul_nonneg (show (0 : Int) ≤ ((q - f : Nat) : Int) by omega) hd
    refine ⟨(strL (List.replicate (q - f) ⟨-d, d⟩)).take (q - f) ++ T, ?_, ?_, fun i x hx => ?_⟩
    · simp only [aheadGo, Int.toNat_natCast, hseg, hp]
      rw [if_pos, h1]
      · rfl
      · constructor
        · simp only [Int.mul_neg]; omega
        · exact hnn
    · simp [strL, h2]; omega
    · by_cases hi : i < q - f
      · rw [List.getElem?_append_left (by simp [strL]; omega), List.getElem?_take_of_lt hi] at hx
        unfold strL at hx
        rw [List.getElem?_map, List.getElem?_range (by simp; omega), Option.map_some, Option.some.injEq] at hx
        subst hx
        have m1 := Int.mul_nonneg (show (0 : Int) ≤ (i : Int) by omega) hd
        have m2 := Int.mul_nonneg (show (0 : Int) ≤ ((q - f : Nat) : Int) - i by omega) hd
        rw [Int.sub_mul] at m2
        unfold strE
        rw [List.length_replicate, pre_rep _ _ i (by omega), hp]
        simp only [Int.mul_neg]
        omega
      · rw [List.getElem?_append_right (by simp [strL]; omega)] at hx
        have hl : ((strL (List.replicate (q - f) (⟨-d, d⟩ : Span))).take (q - f)).length = q - f := by simp [strL]
        rw [hl] at hx
        obtain ⟨g1, g2, g3⟩ := h3 _ _ hx
        refine ⟨g1, g2, Int.le_trans g3 (Int.mul_le_mul_of_nonneg_right (by omega) hd)⟩
end Go.Abs
