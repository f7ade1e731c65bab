/-
  BeamExact: what it looks at is so, for every take-up in bytes and every length.
-/
import Derived.Test.YtbmihapnaclidaaE1
import Derived.Test.YtbmihapnaclidaaKnown
set_option linter.all false
namespace Go.Abs
set_option maxRecDepth 10000
set_option maxHeartbeats 8000000

theorem cross_eq (t : TakeA) (h : checkT t = 0) : numT t * dT t = nT t * denT t := by
  have hb := numT_bound h
  have h1 : ((numT t).toNat : Int) = numT t := by omega
  have h2 : ((denT t).toNat : Int) = denT t := by omega
  have d1 : gT t ∣ (numT t).toNat := Nat.gcd_dvd_left _ _
  have d2 : gT t ∣ (denT t).toNat := Nat.gcd_dvd_right _ _
  unfold nT dT
  conv => lhs; rw [← h1]
  conv => rhs; rw [← h2]
  rw [← Int.natCast_mul, ← Int.natCast_mul, Int.natCast_inj]
  obtain ⟨a, ha⟩ := d1
  obtain ⟨b, hb'⟩ := d2
  have hg := gT_pos h
  rw [ha, hb', Nat.mul_div_cancel_left _ hg, Nat.mul_div_cancel_left _ hg]
  rw [Nat.mul_assoc, Nat.mul_left_comm]
theorem lowest_only (t : TakeA) (h : checkT t = 0) (d : Nat) (hd : 2 ≤ d) (h1 : (nT t).toNat % d = 0) (h2 : (dT t).toNat % d = 0) : False := by
  have hg := gT_pos h
  have hc : Nat.Coprime ((numT t).toNat / gT t) ((denT t).toNat / gT t) := Nat.coprime_div_gcd_div_gcd hg
  have e1 : (nT t).toNat = (numT t).toNat / gT t := rfl
  have e2 : (dT t).toNat = (denT t).toNat / gT t := rfl
  rw [e1] at h1
  rw [e2] at h2
  have := Nat.dvd_gcd (Nat.dvd_of_mod_eq_zero h1) (Nat.dvd_of_mod_eq_zero h2)
  rw [hc] at this
  have := Nat.le_of_dvd (by omega) this
  omega

theorem takeV_eq {t u : TakeA} (h1 : numT u = numT t) (h2 : denT u = denT t) : nT u = nT t ∧ dT u = dT t := by
  unfold nT dT gT
  rw [h1, h2]
  exact ⟨rfl, rfl⟩

theorem exact_main (t : TakeA) (hc : checkT t = 0) (x : GearA) (ht : t = gearT x) (L : Int) (hL : 0 ≤ L ∧ L ≤ 4294967295) : lim F 8 [x.av, .int .u32 L] = some (.bool true, []) := by
  have kn := known_ok
  obtain ⟨hl, ⟨g1, g2, g3⟩, hp⟩ := checkT_zero hc
  have h0 := gearTake_ok x
  rw [← ht] at h0
  have h1 := parts_ok t hc
  have h2 := own_ok t (by omega)
  have h3 := Take_ok t
  rw [if_pos hc, hc] at h3
  have h4 := Picks_ok t L
  have h5 := Picks_ok t (2 * L)
  have e4 : picksE t L = 0 := by unfold picksE; rw [if_pos hc, if_pos (by omega)]
  have e5 : picksE t (2 * L) = 0 := by unfold picksE; rw [if_pos hc, if_pos (by omega)]
  rw [e4, if_pos rfl] at h4
  rw [e5, if_pos rfl] at h5
  have nb := nT_bound hc
  have mb := numT_bound hc
  have cb : 0 ≤ numT t * dT t ∧ numT t * dT t ≤ 25000000000 * 1000000 := ⟨Int.mul_nonneg (by omega) (by omega), Int.mul_le_mul (by omega) (by omega) (by omega) (by omega)⟩
  have h6 := same_ok (numT t) (denT t) (nT t) (dT t) (by omega) (by omega) (by omega) (by omega) (cross_eq t hc) (by omega)
  unfold takeV at h3
  unfold GearA.av TakeA.av at *
  refine lim_by (fn := a8) (k := 2) (res := [.tmp 4]) rfl rfl rfl (by simp -implicitDefEqProofs (maxSteps := 2000000) (disch := first | exact tt_rfl rfl | omega | (simp only [go_sem] <;> omega) | fail) only [go_sem]) ?_
  simp -implicitDefEqProofs (maxSteps := 2000000) (disch := first | exact tt_rfl rfl | omega | (simp only [go_sem] <;> omega) | fail) only [go_sem]
  repeat (first | apply Wp.seqA | apply Wp.skipS | apply Wp.blockS | ((first | apply Wp.regS | apply Wp.condV | apply Wp.reg | apply Wp.condW | apply fin_ret); simp -implicitDefEqProofs (maxSteps := 2000000) (disch := first | exact tt_rfl rfl | omega | (simp only [go_sem] <;> omega) | fail) only [go_sem, h0, h1, h2, h3, h4, h5, h6] <;> try with_reducible rfl) | apply Wp.block | apply Wp.exitS | apply Wp.retS | apply Wp.exit | apply Wp.ret | apply Wp.skip)
  apply Wp.loopF 99 (fun i => ⟨[(1, .int .u32 L), (5, .ptr 320 0 0), (7, iv (denT t)), (8, .ptr 512 0 0), (10, iv (picksOf t L)), (12, iv (picksOf t (2 * L))), (14, iv ((i + 2 : Nat) : Int))], [(320, .box [iv t.rat, iv t.step, .slice 305122 0 t.pairs.length, iv t.round]), (512, .box [iv (nT t), iv (dT t)]), (305122, .arr 2 (t.pairs.map PairT.av))], [], 10000000⟩) (fun _ => True)
  · simp -implicitDefEqProofs (maxSteps := 2000000) (disch := first | exact tt_rfl rfl | omega | (simp only [go_sem] <;> omega) | fail) only [go_sem, norm_eq, Ok.some]
    rfl
  · trivial
  intro i hi _
  by_cases hlt : i < 99
  · have m1 : Int.tmod (nT t) ((i + 2 : Nat) : Int) = (((nT t).toNat % (i + 2) : Nat) : Int) := by
      conv => lhs; rw [show nT t = ((nT t).toNat : Int) by omega]
      exact tmod_nat _ _
    have m2 : Int.tmod (dT t) ((i + 2 : Nat) : Int) = (((dT t).toNat % (i + 2) : Nat) : Int) := by
      conv => lhs; rw [show dT t = ((dT t).toNat : Int) by omega]
      exact tmod_nat _ _
    have no := lowest_only t hc (i + 2) (by omega)
    have u1 : (nT t).toNat % (i + 2) < i + 2 := Nat.mod_lt _ (by omega)
    have u2 : (dT t).toNat % (i + 2) < i + 2 := Nat.mod_lt _ (by omega)
    generalize (nT t).toNat % (i + 2) = r1 at m1 no u1
    generalize (dT t).toNat % (i + 2) = r2 at m2 no u2
    generalize hk : ((i + 2 : Nat) : Int) = k at m1 m2
    have kz : k ≠ 0 := by omega
    by_cases z1 : r1 = 0
    · have z2 : ¬ r2 = 0 := fun h => no z1 h
      repeat (first | apply Wp.seqA | apply Wp.skipS | apply Wp.blockS | ((first | apply Wp.regS | apply Wp.condV | apply Wp.reg | apply Wp.condW | apply fin_ret); simp -implicitDefEqProofs (maxSteps := 2000000) (disch := first | exact tt_rfl rfl | omega | (simp only [go_sem] <;> omega) | fail) only [go_sem, show k ≤ 100 by omega, m1, m2, kz, eq_true (show (r1 : Int) = 0 by omega), show ¬ (r2 : Int) = 0 by omega] <;> try with_reducible rfl) | apply Wp.block | apply Wp.exitS | apply Wp.retS | apply Wp.exit | apply Wp.ret | apply Wp.skip)
      apply round_next
      · simp -implicitDefEqProofs (maxSteps := 2000000) (disch := first | exact tt_rfl rfl | omega | (simp only [go_sem] <;> omega) | fail) only [go_sem, norm_eq, Ok.some]; with_reducible rfl
      exact ⟨hlt, by rw [← hk]; simp; omega, trivial⟩
    · repeat (first | apply Wp.seqA | apply Wp.skipS | apply Wp.blockS | ((first | apply Wp.regS | apply Wp.condV | apply Wp.reg | apply Wp.condW | apply fin_ret); simp -implicitDefEqProofs (maxSteps := 2000000) (disch := first | exact tt_rfl rfl | omega | (simp only [go_sem] <;> omega) | fail) only [go_sem, show k ≤ 100 by omega, m1, kz, show ¬ (r1 : Int) = 0 by omega] <;> try with_reducible rfl) | apply Wp.block | apply Wp.exitS | apply Wp.retS | apply Wp.exit | apply Wp.ret | apply Wp.skip)
      apply round_next
      · simp -implicitDefEqProofs (maxSteps := 2000000) (disch := first | exact tt_rfl rfl | omega | (simp only [go_sem] <;> omega) | fail) only [go_sem, norm_eq, Ok.some]; with_reducible rfl
      exact ⟨hlt, by rw [← hk]; simp; omega, trivial⟩
  · obtain rfl : i = 99 := by omega
    have ab : 0 ≤ L * dT t ∧ L * dT t ≤ 4294967295 * 1000000 := ⟨Int.mul_nonneg hL.1 (by omega), Int.mul_le_mul hL.2 (by omega) (by omega) (by omega)⟩
    have f1 : picksOf t L * nT t ≤ L * dT t := Int.ediv_mul_le _ (by omega)
    have f2 : L * dT t < (picksOf t L + 1) * nT t := Int.lt_ediv_add_one_mul_self _ (by omega)
    have e2 : 2 * L * dT t = 2 * (L * dT t) := Int.mul_assoc _ _ _
    have f0 : 0 ≤ picksOf t L ∧ picksOf t L ≤ L * dT t := ⟨Int.ediv_nonneg ab.1 (by omega), Int.ediv_le_self _ ab.1⟩
    have f3 : 2 * picksOf t L ≤ picksOf t (2 * L) := by
      unfold picksOf at f1 ⊢
      rw [e2]
      apply Int.le_ediv_of_mul_le (by omega)
      rw [Int.mul_assoc]
      omega
    have f4 : picksOf t (2 * L) < 2 * picksOf t L + 2 := by
      have : 2 * (L * dT t) < (2 * picksOf t L + 2) * nT t := by
        rw [show 2 * picksOf t L + 2 = 2 * (picksOf t L + 1) by omega, Int.mul_assoc]
        omega
      unfold picksOf at this ⊢
      rw [e2]
      exact Int.ediv_lt_of_lt_mul (by omega) this
    have dl : dT t ≤ denT t := by
      have : (denT t).toNat / gT t ≤ (denT t).toNat := Nat.div_le_self _ _
      unfold dT
      omega
    have f5 : L * dT t ≤ L * denT t := Int.mul_le_mul_of_nonneg_left dl hL.1
    have f6 : L * denT t ≤ 4294967295 * 1000000 := Int.mul_le_mul hL.2 (by omega) (by omega) (by omega)
    have f7 : (picksOf t L + 1) * nT t = picksOf t L * nT t + nT t := by rw [Int.add_mul, Int.one_mul]
    have f8 : 0 ≤ picksOf t L * nT t := Int.mul_nonneg f0.1 (by omega)
    generalize picksOf t (2 * L) = M at *
    generalize picksOf t L = P at *
    generalize hq1 : L * dT t = q1 at *
    generalize hq2 : L * denT t = q2 at *
    generalize hq3 : P * nT t = q3 at *
    generalize hq4 : (P + 1) * nT t = q4 at *
    have w1 : ¬ P < 0 := by omega
    have w2 : ¬ q2 < P := by omega
    have w3 : ¬ q1 < q3 := by omega
    have w4 : ¬ q4 ≤ q1 := by omega
    have w5 : ¬ M < 2 * P := by omega
    have w6 : ¬ 2 * P + 1 < M := by omega
    by_cases h2p : t.pairs.length = 2
    · obtain ⟨a, b, hpr⟩ : ∃ a b, t.pairs = [a, b] := by
        match hpr : t.pairs, h2p with
        | [a, b], _ => exact ⟨a, b, rfl⟩
      rw [hpr] at h2 ⊢
      simp only [List.map_cons, List.map_nil] at h2 ⊢
      repeat (first | apply Wp.seqA | apply Wp.skipS | apply Wp.blockS | ((first | apply Wp.regS | apply Wp.condV | apply Wp.reg | apply Wp.condW | apply fin_ret); simp -implicitDefEqProofs (maxSteps := 2000000) (disch := first | exact tt_rfl rfl | omega | (simp only [go_sem] <;> omega) | fail) only [go_sem, show ¬ ((99 + 2 : Nat) : Int) ≤ 100 by omega, hq1, hq2, hq3, hq4, w1, w2, w3, w4, w5, w6, gt_iff_lt, List.length_cons, List.length_nil, PairT.av.eq_1, List.getElem?_cons_zero, List.getElem?_cons_succ] <;> try with_reducible rfl) | apply Wp.block | apply Wp.exitS | apply Wp.retS | apply Wp.exit | apply Wp.ret | apply Wp.skip)
      have pa := hp a (by rw [hpr]; simp)
      have pb := hp b (by rw [hpr]; simp)
      have hu1 : checkT ⟨t.rat, t.step, [b, a], t.round⟩ = 0 := by
        unfold checkT
        rw [if_neg (by simp), if_pos ⟨⟨g1, g2, g3⟩, fun p hm => (List.mem_cons.1 hm).elim (fun e => e ▸ pb) fun h => List.mem_singleton.1 h ▸ pa⟩]
      have hu2 : checkT ⟨t.rat, t.step, [⟨b.dr, a.dn⟩, ⟨a.dr, b.dn⟩], t.round⟩ = 0 := by
        unfold checkT
        rw [if_neg (by simp), if_pos ⟨⟨g1, g2, g3⟩, fun p hm => (List.mem_cons.1 hm).elim (fun e => e ▸ ⟨pb.1, pa.2⟩) fun h => List.mem_singleton.1 h ▸ ⟨pa.1, pb.2⟩⟩]
      have v1 := takeV_eq (t := t) (u := ⟨t.rat, t.step, [b, a], t.round⟩) (by simp only [numT, numP, hpr, Int.mul_one]; rw [Int.mul_comm b.dr]) (by simp only [denT, denP, hpr, Int.mul_one]; rw [Int.mul_comm b.dn])
      have v2 := takeV_eq (t := t) (u := ⟨t.rat, t.step, [⟨b.dr, a.dn⟩, ⟨a.dr, b.dn⟩], t.round⟩) (by simp only [numT, numP, hpr, Int.mul_one]; rw [Int.mul_comm b.dr]) (by simp only [denT, denP, hpr, Int.mul_one])
      have k1 := Take_ok ⟨t.rat, t.step, [b, a], t.round⟩
      have k2 := Take_ok ⟨t.rat, t.step, [⟨b.dr, a.dn⟩, ⟨a.dr, b.dn⟩], t.round⟩
      rw [if_pos hu1, hu1] at k1
      rw [if_pos hu2, hu2] at k2
      unfold takeV TakeA.av at k1 k2
      rw [v1.1, v1.2] at k1
      rw [v2.1, v2.2] at k2
      simp only [List.map_cons, List.map_nil, PairT.av] at k1 k2 h2
      clear w1 w2 w3 w4 w5 w6 f0 f1 f2 f3 f4 f5 f6 f7 f8 ab e2 dl hq1 hq2 hq3 hq4 h4 h5 h6
      apply Wp.loopF 2 (fun i => ⟨[(5, .ptr 320 0 0), (8, .ptr 512 0 0), (15, .ptr 960 0 0), (16, .ptr 1024 0 0), (17, iv i)], [(320, .box [iv t.rat, iv t.step, .slice 305122 0 2, iv t.round]), (512, .box [iv (nT t), iv (dT t)]), (960, .box [iv a.dr, iv a.dn]), (1024, .box [iv b.dr, iv b.dn]), (305122, .arr 2 [.agg [iv a.dr, iv a.dn], .agg [iv b.dr, iv b.dn]])], [], 10000000⟩) (fun _ => True)
      · simp -implicitDefEqProofs (maxSteps := 2000000) (disch := first | exact tt_rfl rfl | omega | (simp only [go_sem] <;> omega) | fail) only [go_sem, norm_eq, Ok.some]
        rfl
      · trivial
      intro i hi _
      match i, hi with
      | 0, _ =>
        repeat (first | apply Wp.seqA | apply Wp.skipS | apply Wp.blockS | ((first | apply Wp.regS | apply Wp.condV | apply Wp.reg | apply Wp.condW | apply fin_ret); simp -implicitDefEqProofs (maxSteps := 2000000) (disch := first | exact tt_rfl rfl | omega | (simp only [go_sem] <;> omega) | fail) only [go_sem, h2, k1, List.length_cons, List.length_nil, List.getElem?_cons_zero, List.getElem?_cons_succ, bne_self_eq_false] <;> try with_reducible rfl) | apply Wp.block | apply Wp.exitS | apply Wp.retS | apply Wp.exit | apply Wp.ret | apply Wp.skip)
        apply round_next
        · simp -implicitDefEqProofs (maxSteps := 2000000) (disch := first | exact tt_rfl rfl | omega | (simp only [go_sem] <;> omega) | fail) only [go_sem, norm_eq, Ok.some]; with_reducible rfl
        exact ⟨by omega, rfl, trivial⟩
      | 1, _ =>
        repeat (first | apply Wp.seqA | apply Wp.skipS | apply Wp.blockS | ((first | apply Wp.regS | apply Wp.condV | apply Wp.reg | apply Wp.condW | apply fin_ret); simp -implicitDefEqProofs (maxSteps := 2000000) (disch := first | exact tt_rfl rfl | omega | (simp only [go_sem] <;> omega) | fail) only [go_sem, h2, k2, List.length_cons, List.length_nil, List.getElem?_cons_zero, List.getElem?_cons_succ, bne_self_eq_false] <;> try with_reducible rfl) | apply Wp.block | apply Wp.exitS | apply Wp.retS | apply Wp.exit | apply Wp.ret | apply Wp.skip)
        apply round_next
        · simp -implicitDefEqProofs (maxSteps := 2000000) (disch := first | exact tt_rfl rfl | omega | (simp only [go_sem] <;> omega) | fail) only [go_sem, norm_eq, Ok.some]; with_reducible rfl
        exact ⟨by omega, rfl, trivial⟩
      | 2, _ =>
        repeat (first | apply Wp.seqA | apply Wp.skipS | apply Wp.blockS | ((first | apply Wp.regS | apply Wp.condV | apply Wp.reg | apply Wp.condW | apply fin_ret); simp -implicitDefEqProofs (maxSteps := 2000000) (disch := first | exact tt_rfl rfl | omega | (simp only [go_sem] <;> omega) | fail) only [go_sem, kn] <;> try with_reducible rfl) | apply Wp.block | apply Wp.exitS | apply Wp.retS | apply Wp.exit | apply Wp.ret | apply Wp.skip)
    · repeat (first | apply Wp.seqA | apply Wp.skipS | apply Wp.blockS | ((first | apply Wp.regS | apply Wp.condV | apply Wp.reg | apply Wp.condW | apply fin_ret); simp -implicitDefEqProofs (maxSteps := 2000000) (disch := first | exact tt_rfl rfl | omega | (simp only [go_sem] <;> omega) | fail) only [go_sem, show ¬ ((99 + 2 : Nat) : Int) ≤ 100 by omega, hq1, hq2, hq3, hq4, w1, w2, w3, w4, w5, w6, gt_iff_lt, show ¬ (t.pairs.length : Int) = 2 by omega, kn] <;> try with_reducible rfl) | apply Wp.block | apply Wp.exitS | apply Wp.retS | apply Wp.exit | apply Wp.ret | apply Wp.skip)

theorem beamExact_ok (x : GearA) (L : Int) (hL : 0 ≤ L ∧ L ≤ 4294967295) : lim F 8 [x.av, .int .u32 L] = some (.bool true, []) :=
  exact_main (gearT x) (gearT_ok x) x rfl L hL
end Go.Abs
