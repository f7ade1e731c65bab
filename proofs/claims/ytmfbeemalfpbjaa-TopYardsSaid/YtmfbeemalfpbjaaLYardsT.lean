/-
  TopYards: what it looks at is so, for every take-up in bytes, every warp and four lengths in bytes.
-/
import Derived.Test.YtmfbeemalfpbjaaT2
set_option linter.all false
namespace Go.Abs
set_option maxRecDepth 10000
set_option maxHeartbeats 8000000
open Go.Abs.Beam (TakeA PairT checkT longT longR nT dT tmod_nat tdiv_nat figE SpanOk WarpA clothV picksOf YOk)

abbrev CutB := Fin 256 × Fin 256
def cutB (r : Int) (c : CutB) : Cut := ⟨Int.tmod c.1.1 r, 1 + Int.tmod c.2.1 40⟩
theorem cutB_in {r : Int} (hr : 1 ≤ r) (c : CutB) : (1 ≤ (cutB r c).p ∧ (cutB r c).p ≤ 40) ∧ 0 ≤ (cutB r c).b ∧ (cutB r c).b ≤ r - 1 := by
  have e1 := Int.tmod_eq_emod_of_nonneg (a := (c.1.1 : Int)) (b := r) (by omega)
  have e2 := Int.tmod_eq_emod_of_nonneg (a := (c.2.1 : Int)) (b := 40) (by omega)
  have h1 := Int.emod_nonneg (c.1.1 : Int) (show r ≠ 0 by omega)
  have h2 := Int.emod_lt_of_pos (c.1.1 : Int) (show 0 < r by omega)
  unfold cutB
  simp only [e1, e2]
  omega

theorem mul_inU {a b A B : Int} (a0 : 0 ≤ a) (a1 : a ≤ A) (b0 : 0 ≤ b) (b1 : b ≤ B) : 0 ≤ a * b ∧ a * b ≤ A * B := ⟨Int.mul_nonneg a0 b0, Int.mul_le_mul a1 b1 b0 (by omega)⟩
theorem yards_top (x : GearB) (w0 w1 w2 w3 r s c : Int) (q0 : 0 ≤ w0 ∧ w0 ≤ 255) (q1 : 0 ≤ w1 ∧ w1 ≤ 255) (q2 : 0 ≤ w2 ∧ w2 ≤ 255) (q3 : 0 ≤ w3 ∧ w3 ≤ 255) (e0 : 1 + Int.tmod w0 20 = r) (e1 : Int.tmod w1 20 = s) (e2 : Int.tmod w2 50 = c)
    (r1 : 1 ≤ r ∧ r ≤ 20) (s1 : 0 ≤ s ∧ s ≤ 19) (c1 : 0 ≤ c ∧ c ≤ 49) (a b d e : CutB) :
    lim F 4 [x.av, .agg [.int .u8 w0, .int .u8 w1, .int .u8 w2, .int .u8 w3], .agg [.int .u8 (a.1.1 : Int), .int .u8 (a.2.1 : Int), .int .u8 (b.1.1 : Int), .int .u8 (b.2.1 : Int), .int .u8 (d.1.1 : Int), .int .u8 (d.2.1 : Int), .int .u8 (e.1.1 : Int), .int .u8 (e.2.1 : Int)]] = some (.bool true, []) := by
  have a1 := armBeam_ok
  have a2 := armSeam_ok
  have hc := gearB_ok x
  have h0 := armTake_ok x
  have h1 := Beam.Take_ok x.t
  rw [if_pos hc, hc] at h1
  obtain ⟨b0, b1, b2⟩ := gearB_bound x
  have hv : CutsOk r [] ([a, b, d, e].map (cutB r)) := ⟨by omega, by simp, by simp, by simp, fun y hy => by
    obtain ⟨z, _, rfl⟩ := List.mem_map.1 hy
    have := cutB_in r1.1 z
    omega⟩
  have hcc := fun z => cutB_in r1.1 z
  have h2 := cutsE_free hv
  obtain ⟨q, h3, st, need, rfl, hbest, _⟩ := Cut_ok r [] _ h2
  have hnb := need_bound hv (B := 40) (fun y hy => by
    obtain ⟨z, _, rfl⟩ := List.mem_map.1 hy
    exact (hcc z).1.2) (by omega) (by simp) hbest
  rw [show ((([a, b, d, e].map (cutB r)).length : Nat) : Int) = 4 from rfl] at hnb
  have sp := armSpan_ok
  have nb1 : 0 ≤ need * nT x.t ∧ need * nT x.t ≤ 236 * 3335865 := mul_inU (by omega) (by omega) (by omega) (by omega)
  obtain ⟨L, hL⟩ : ∃ L, L = (need * nT x.t + dT x.t - 1) / dT x.t := ⟨_, rfl⟩
  have l1 : need * nT x.t ≤ L * dT x.t := by
    have := Int.lt_ediv_add_one_mul_self (need * nT x.t + dT x.t - 1) (show 0 < dT x.t by omega)
    rw [← hL, Int.add_mul, Int.one_mul] at this
    omega
  have l2 : L * dT x.t ≤ need * nT x.t + dT x.t - 1 := by rw [hL]; exact Int.ediv_mul_le _ (by omega)
  have l3 : L ≤ 236 * 3335865 + 9800 := by
    have : L ≤ need * nT x.t + dT x.t - 1 := by rw [hL]; exact Int.ediv_le_self _ (by omega)
    omega
  have l4 : 1 ≤ L := by
    have h : 1 * 1 ≤ need * nT x.t := Int.mul_le_mul (by omega) (by omega) (by omega) (by omega)
    rw [hL]
    exact Int.le_ediv_of_mul_le (by omega) (by omega)
  have tL : Int.tdiv (need * nT x.t + dT x.t - 1) (dT x.t) = L := by rw [hL]; exact Int.tdiv_eq_ediv_of_nonneg (by omega)
  clear hL
  have hW : (⟨1000000, 1000000, s, s + 5, c, c + 9, 1000, 1000 + 100 * w3⟩ : WarpA).Ok := ⟨⟨by simp only; omega, by simp only; omega, by simp only; omega⟩, ⟨by simp only; omega, by simp only; omega, by simp only; omega⟩, ⟨by simp only; omega, by simp only; omega, by simp only; omega⟩, ⟨by simp only; omega, by simp only; omega, by simp only; omega⟩⟩
  have hy : ∀ n : Int, 0 ≤ n → n ≤ 10000000001 → YOk s (c + 9) (1000 + 100 * w3) n := fun n z1 z2 => ⟨z1, z2, by omega, by omega, by omega, by omega, by omega, by omega⟩
  have hN := Beam.Need_ok ⟨1000000, 1000000, s, s + 5, c, c + 9, 1000, 1000 + 100 * w3⟩ L
  obtain ⟨n, hn⟩ : ∃ n, n = Beam.firstP (fun n : Nat => decide (L ≤ clothV s (c + 9) (1000 + 100 * w3) n)) 10000000001 := ⟨_, rfl⟩
  have hnW : (⟨1000000, 1000000, s, s + 5, c, c + 9, 1000, 1000 + 100 * w3⟩ : WarpA).need L = n := by rw [hn]; rfl
  have top : L ≤ clothV s (c + 9) (1000 + 100 * w3) 10000000000 := by
    unfold clothV
    have u1 : 10000000000 ≤ 10000000000 * (1000 + s) / 1000 := by omega
    have u2 := Int.mul_le_mul u1 (show 942 ≤ 1000 - (c + 9) by omega) (by omega) (by omega)
    generalize 10000000000 * (1000 + s) / 1000 * (1000 - (c + 9)) = u at *
    omega
  have n1 : n ≤ 10000000000 := by
    apply Classical.byContradiction
    intro hgt
    have := Beam.firstP_no (p := fun n : Nat => decide (L ≤ clothV s (c + 9) (1000 + 100 * w3) n)) (N := 10000000001) (i := 10000000000) (by omega)
    rw [decide_eq_false_iff_not] at this
    exact this top
  have n2 : L ≤ clothV s (c + 9) (1000 + 100 * w3) n := by
    have := Beam.firstP_yes (p := fun n : Nat => decide (L ≤ clothV s (c + 9) (1000 + 100 * w3) n)) (N := 10000000001) (by omega)
    rw [decide_eq_true_eq] at this
    rw [hn]
    exact this
  have n3 : 1 ≤ n := by
    rcases Nat.eq_zero_or_pos n with h | h
    · rw [h] at n2
      unfold clothV at n2
      simp at n2
      omega
    · exact h
  have n4 : clothV s (c + 9) (1000 + 100 * w3) ((n : Int) - 1) < L := by
    have := Beam.firstP_no (p := fun n : Nat => decide (L ≤ clothV s (c + 9) (1000 + 100 * w3) n)) (N := 10000000001) (i := n - 1) (by omega)
    rw [decide_eq_false_iff_not, show ((n - 1 : Nat) : Int) = (n : Int) - 1 by omega] at this
    omega
  have n5 := cloth_step (s := s) (c := c + 9) (a := 1000 + 100 * w3) (n := n) (by omega) (by omega) (by omega)
  have eN : Beam.needE ⟨1000000, 1000000, s, s + 5, c, c + 9, 1000, 1000 + 100 * w3⟩ L = 0 := by
    unfold Beam.needE
    rw [if_pos hW, if_pos (by omega), hnW, if_pos n1]
  rw [eN, if_pos rfl, hnW] at hN
  have hW1 : (⟨n, n, s, s + 5, c, c + 9, 1000, 1000 + 100 * w3⟩ : WarpA).Ok := ⟨⟨by simp only; omega, by simp only; omega, by simp only; omega⟩, ⟨by simp only; omega, by simp only; omega, by simp only; omega⟩, ⟨by simp only; omega, by simp only; omega, by simp only; omega⟩, ⟨by simp only; omega, by simp only; omega, by simp only; omega⟩⟩
  have hG := Beam.Gives_ok ⟨n, n, s, s + 5, c, c + 9, 1000, 1000 + 100 * w3⟩
  rw [show Beam.warpE ⟨n, n, s, s + 5, c, c + 9, 1000, 1000 + 100 * w3⟩ = 0 from if_pos hW1, if_pos rfl, if_pos rfl] at hG
  change _ = some (AV.tuple [.agg [iv (clothV s (c + 9) (1000 + 100 * w3) n), _], _], []) at hG
  generalize (⟨n, n, s, s + 5, c, c + 9, 1000, 1000 + 100 * w3⟩ : WarpA).high = gh at hG
  clear top n3 hn hnW hW hW1 eN hy
  generalize clothV s (c + 9) (1000 + 100 * w3) ((n : Int) - 1) = g' at *
  generalize clothV s (c + 9) (1000 + 100 * w3) n = g at *
  have hP1 := Beam.Picks_ok x.t L
  have hP2 := Beam.Picks_ok x.t g
  rw [show Beam.picksE x.t L = 0 by unfold Beam.picksE; rw [if_pos hc, if_pos (by omega)], if_pos rfl] at hP1
  rw [show Beam.picksE x.t g = 0 by unfold Beam.picksE; rw [if_pos hc, if_pos (by omega)], if_pos rfl] at hP2
  have k1 : need ≤ picksOf x.t L := Int.le_ediv_of_mul_le (by omega) l1
  have k2 : picksOf x.t L ≤ picksOf x.t g := Int.ediv_le_ediv (by omega) (Int.mul_le_mul_of_nonneg_right n2 (by omega))
  have k3 : picksOf x.t g < need + 2 := by
    apply Int.ediv_lt_of_lt_mul (by omega)
    have h1 : g * dT x.t ≤ (L + 1) * dT x.t := Int.mul_le_mul_of_nonneg_right (by omega) (by omega)
    rw [Int.add_mul, Int.one_mul] at h1
    rw [Int.add_mul]
    omega
  obtain ⟨q, h4, hq⟩ := Pieces_ok r (picksOf x.t g) _ h2 (by omega)
  obtain ⟨p1, p2⟩ := pieces_one hv (by simp) hbest (show need ≤ picksOf x.t g by omega)
  have hq1 : q = (AV.tuple [iv 1, iv 0], []) := by
    rcases hq with ⟨m, rfl, hm⟩ | ⟨_, i, hi, hno⟩
    · rw [p2 m hm]; rfl
    · exact absurd (p1 i hi) hno
  subst hq1
  clear hq p1 p2 hv hbest h2
  simp only [List.map_cons, List.map_nil, Cut.av] at h3 h4
  unfold WarpA.av at hN hG
  simp only at hN hG
  generalize picksOf x.t L = P1 at *
  generalize picksOf x.t g = P2 at *
  have hca := hcc a
  have hcb := hcc b
  have hcd := hcc d
  have hce := hcc e
  clear hcc
  have ma : Int.tmod (a.1.1 : Int) r = (cutB r a).b := rfl
  have ma' : 1 + Int.tmod (a.2.1 : Int) 40 = (cutB r a).p := rfl
  have mb : Int.tmod (b.1.1 : Int) r = (cutB r b).b := rfl
  have mb' : 1 + Int.tmod (b.2.1 : Int) 40 = (cutB r b).p := rfl
  have md : Int.tmod (d.1.1 : Int) r = (cutB r d).b := rfl
  have md' : 1 + Int.tmod (d.2.1 : Int) 40 = (cutB r d).p := rfl
  have me : Int.tmod (e.1.1 : Int) r = (cutB r e).b := rfl
  have me' : 1 + Int.tmod (e.2.1 : Int) 40 = (cutB r e).p := rfl
  have xa := a.1.2
  have xa' := a.2.2
  have xb := b.1.2
  have xb' := b.2.2
  have xd := d.1.2
  have xd' := d.2.2
  have xe := e.1.2
  have xe' := e.2.2
  generalize cutB r a = ca at *
  generalize cutB r b = cb at *
  generalize cutB r d = cd at *
  generalize cutB r e = ce at *
  unfold Beam.TakeA.av at *
  unfold Beam.takeV at h1
  unfold GearB.av at *
  refine lim_by (fn := a4) (k := 3) (res := [.tmp 6]) rfl rfl rfl (by simp -implicitDefEqProofs (maxSteps := 2000000) (disch := first | exact tt_rfl rfl | omega | (simp only [go_sem] <;> omega) | fail) only [go_sem]) ?_
  simp -implicitDefEqProofs (maxSteps := 2000000) (disch := first | exact tt_rfl rfl | omega | (simp only [go_sem] <;> omega) | fail) only [go_sem]
  repeat (first | apply Wp.seqA | apply Wp.skipS | apply Wp.blockS | ((first | apply Wp.regS | apply Wp.condV | apply Wp.reg | apply Wp.condW | apply fin_ret); simp -implicitDefEqProofs (maxSteps := 2000000) (disch := first | exact tt_rfl rfl | omega | (simp only [go_sem] <;> omega) | fail) only [go_sem, h0, e0] <;> try with_reducible rfl) | apply Wp.block | apply Wp.exitS | apply Wp.retS | apply Wp.exit | apply Wp.ret | apply Wp.skip)
  apply Wp.loopF 4 (fun i => ⟨[(4, .ptr 256 0 0), (5, .ptr 320 0 0), (7, .ptr 448 0 0), (9, iv r), (10, .slice 640 0 i), (11, iv i)], [(256, .box [.int .u8 w0, .int .u8 w1, .int .u8 w2, .int .u8 w3]), (320, .box [.int .u8 (a.1.1 : Int), .int .u8 (a.2.1 : Int), .int .u8 (b.1.1 : Int), .int .u8 (b.2.1 : Int), .int .u8 (d.1.1 : Int), .int .u8 (d.2.1 : Int), .int .u8 (e.1.1 : Int), .int .u8 (e.2.1 : Int)]), (448, .box [iv x.t.rat, iv x.t.step, .slice 307170 0 x.t.pairs.length, iv x.t.round]), (640, .arr 2 ([.agg [iv ca.b, iv ca.p], .agg [iv cb.b, iv cb.p], .agg [iv cd.b, iv cd.p], .agg [iv ce.b, iv ce.p]].take i)), (307170, .arr 2 (x.t.pairs.map PairT.av))], [], 10000000⟩) (fun _ => True)
  · simp -implicitDefEqProofs (maxSteps := 2000000) (disch := first | exact tt_rfl rfl | omega | (simp only [go_sem] <;> omega) | fail) only [go_sem, norm_eq, Ok.some]
    try rfl
  · trivial
  intro i hi _
  match i, hi with
  | 0, _ =>
    repeat (first | apply Wp.seqA | apply Wp.skipS | apply Wp.blockS | ((first | apply Wp.regS | apply Wp.condV | apply Wp.reg | apply Wp.condW | apply fin_ret); simp -implicitDefEqProofs (maxSteps := 2000000) (disch := first | exact tt_rfl rfl | omega | (simp only [go_sem] <;> omega) | fail) only [go_sem, ma, ma', show r ≠ 0 by omega, List.length_nil] <;> try with_reducible rfl) | apply Wp.block | apply Wp.exitS | apply Wp.retS | apply Wp.exit | apply Wp.ret | apply Wp.skip)
    apply round_next
    · simp -implicitDefEqProofs (maxSteps := 2000000) (disch := first | exact tt_rfl rfl | omega | (simp only [go_sem] <;> omega) | fail) only [go_sem, norm_eq, Ok.some]; with_reducible rfl
    exact ⟨by omega, rfl, trivial⟩
  | 1, _ =>
    repeat (first | apply Wp.seqA | apply Wp.skipS | apply Wp.blockS | ((first | apply Wp.regS | apply Wp.condV | apply Wp.reg | apply Wp.condW | apply fin_ret); simp -implicitDefEqProofs (maxSteps := 2000000) (disch := first | exact tt_rfl rfl | omega | (simp only [go_sem] <;> omega) | fail) only [go_sem, mb, mb', show r ≠ 0 by omega, List.length_cons, List.length_nil] <;> try with_reducible rfl) | apply Wp.block | apply Wp.exitS | apply Wp.retS | apply Wp.exit | apply Wp.ret | apply Wp.skip)
    apply round_next
    · simp -implicitDefEqProofs (maxSteps := 2000000) (disch := first | exact tt_rfl rfl | omega | (simp only [go_sem] <;> omega) | fail) only [go_sem, norm_eq, Ok.some]; with_reducible rfl
    exact ⟨by omega, rfl, trivial⟩
  | 2, _ =>
    repeat (first | apply Wp.seqA | apply Wp.skipS | apply Wp.blockS | ((first | apply Wp.regS | apply Wp.condV | apply Wp.reg | apply Wp.condW | apply fin_ret); simp -implicitDefEqProofs (maxSteps := 2000000) (disch := first | exact tt_rfl rfl | omega | (simp only [go_sem] <;> omega) | fail) only [go_sem, md, md', show r ≠ 0 by omega, List.length_cons, List.length_nil] <;> try with_reducible rfl) | apply Wp.block | apply Wp.exitS | apply Wp.retS | apply Wp.exit | apply Wp.ret | apply Wp.skip)
    apply round_next
    · simp -implicitDefEqProofs (maxSteps := 2000000) (disch := first | exact tt_rfl rfl | omega | (simp only [go_sem] <;> omega) | fail) only [go_sem, norm_eq, Ok.some]; with_reducible rfl
    exact ⟨by omega, rfl, trivial⟩
  | 3, _ =>
    repeat (first | apply Wp.seqA | apply Wp.skipS | apply Wp.blockS | ((first | apply Wp.regS | apply Wp.condV | apply Wp.reg | apply Wp.condW | apply fin_ret); simp -implicitDefEqProofs (maxSteps := 2000000) (disch := first | exact tt_rfl rfl | omega | (simp only [go_sem] <;> omega) | fail) only [go_sem, me, me', show r ≠ 0 by omega, List.length_cons, List.length_nil] <;> try with_reducible rfl) | apply Wp.block | apply Wp.exitS | apply Wp.retS | apply Wp.exit | apply Wp.ret | apply Wp.skip)
    apply round_next
    · simp -implicitDefEqProofs (maxSteps := 2000000) (disch := first | exact tt_rfl rfl | omega | (simp only [go_sem] <;> omega) | fail) only [go_sem, norm_eq, Ok.some]; with_reducible rfl
    exact ⟨by omega, rfl, trivial⟩
  | 4, _ =>
    repeat (first | apply Wp.seqA | apply Wp.skipS | apply Wp.blockS | ((first | apply Wp.regS | apply Wp.condV | apply Wp.reg | apply Wp.condW | apply fin_ret); simp -implicitDefEqProofs (maxSteps := 2000000) (disch := first | exact tt_rfl rfl | omega | (simp only [go_sem] <;> omega) | fail) only [go_sem, sp, e1, e2, h3, h1, gt_iff_lt, show ¬ need < 1 by omega, show ¬ (10000 : Int) < need by omega, show ¬ dT x.t < 1 by omega, show ¬ nT x.t < 1 by omega, show ¬ (100000000 : Int) < nT x.t by omega, show ¬ (100000 : Int) < dT x.t by omega, tL, show dT x.t ≠ 0 by omega, hN, hP1, show ¬ P1 < need by omega, show ¬ (n : Int) < 0 by omega, show ¬ (10000000000 : Int) < n by omega, hG, show max 0 (min g 10000000000) = g by omega, hP2, show ¬ g < L by omega, show ¬ P2 < need by omega, h4, a1, a2, beq_self_eq_true] <;> try with_reducible rfl) | apply Wp.block | apply Wp.exitS | apply Wp.retS | apply Wp.exit | apply Wp.ret | apply Wp.skip)

theorem topYards_ok (x : GearB) (w : Arr (Fin 256) 4) (cu : Arr CutB 4) : lim F 4 [x.av, .agg (w.1.flatMap fun n => [.int .u8 (n.1 : Int)]), .agg (cu.1.flatMap fun n => [.int .u8 (n.1.1 : Int), .int .u8 (n.2.1 : Int)])] = some (.bool true, []) := by
  obtain ⟨l, hl⟩ := w
  obtain ⟨m, hm⟩ := cu
  match l, hl, m, hm with
  | [w0, w1, w2, w3], _, [a, b, d, e], _ =>
    simp only [List.flatMap_cons, List.flatMap_nil, List.append_nil, List.cons_append, List.nil_append]
    have q0 := w0.2
    have q1 := w1.2
    have q2 := w2.2
    have q3 := w3.2
    have e0 := Int.tmod_eq_emod_of_nonneg (a := (w0.1 : Int)) (b := 20) (by omega)
    have e1 := Int.tmod_eq_emod_of_nonneg (a := (w1.1 : Int)) (b := 20) (by omega)
    have e2 := Int.tmod_eq_emod_of_nonneg (a := (w2.1 : Int)) (b := 50) (by omega)
    exact yards_top x w0.1 w1.1 w2.1 w3.1 (1 + (w0.1 : Int) % 20) ((w1.1 : Int) % 20) ((w2.1 : Int) % 50) (by omega) (by omega) (by omega) (by omega) (by rw [e0]) e1 e2 (by omega) (by omega) (by omega) a b d e
end Go.Abs
