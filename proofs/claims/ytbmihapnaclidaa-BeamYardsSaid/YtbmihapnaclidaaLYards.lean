/-
  BeamYards: what it looks at is so, for every warp in bytes and every truth.
-/
import Derived.Test.YtbmihapnaclidaaW2
import Derived.Test.YtbmihapnaclidaaKnown
import Derived.Test.YtbmihapnaclidaaFlat
set_option linter.all false
namespace Go.Abs
set_option maxRecDepth 10000
set_option maxHeartbeats 4000000

def insideV (a b n : Int) : Int := a + n % (b - a + 1)
theorem insideV_in {a b : Int} (n : Int) (h : a ≤ b) : a ≤ insideV a b n ∧ insideV a b n ≤ b := by
  have h1 := Int.emod_nonneg n (show b - a + 1 ≠ 0 by omega)
  have h2 := Int.emod_lt_of_pos n (show 0 < b - a + 1 by omega)
  unfold insideV
  omega
theorem inside_ok (a b n : Int) (h0 : 0 ≤ a) (h : a ≤ b) (hb : b ≤ 10000000000) (hn : 0 ≤ n) : lim F 57 [.agg [iv a, iv b], iv n] = some (iv (insideV a b n), []) := by
  have hi := insideV_in n h
  have e : Int.tmod n (b - a + 1) = n % (b - a + 1) := Int.tmod_eq_emod_of_nonneg hn
  unfold insideV at *
  generalize n % (b - a + 1) = m at *
  refine lim_by (fn := a57) (k := 2) (res := [.tmp 4]) rfl rfl rfl (by simp -implicitDefEqProofs (maxSteps := 2000000) (disch := first | exact tt_rfl rfl | omega | (simp only [go_sem] <;> omega) | fail) only [go_sem]) ?_
  simp -implicitDefEqProofs (maxSteps := 2000000) (disch := first | exact tt_rfl rfl | omega | (simp only [go_sem] <;> omega) | fail) only [go_sem]
  repeat (first | apply Wp.seqA | apply Wp.skipS | apply Wp.blockS | ((first | apply Wp.regS | apply Wp.condV | apply Wp.reg | apply Wp.condW | apply fin_ret); simp -implicitDefEqProofs (maxSteps := 2000000) (disch := first | exact tt_rfl rfl | omega | (simp only [go_sem] <;> omega) | fail) only [go_sem, e, show b - a + 1 ≠ 0 by omega] <;> try with_reducible rfl) | apply Wp.block | apply Wp.exitS | apply Wp.retS | apply Wp.exit | apply Wp.ret | apply Wp.skip)

theorem span_ok (a b : Int) : lim F 33 [iv a, iv b] = some (.agg [iv a, iv b], []) := by
  refine lim_by (fn := a33) (k := 2) (res := [.cell 4 2 true]) rfl rfl rfl (by simp -implicitDefEqProofs (maxSteps := 2000000) (disch := first | exact tt_rfl rfl | omega | (simp only [go_sem] <;> omega) | fail) only [go_sem]) ?_
  simp -implicitDefEqProofs (maxSteps := 2000000) (disch := first | exact tt_rfl rfl | omega | (simp only [go_sem] <;> omega) | fail) only [go_sem]
  repeat (first | apply Wp.seqA | apply Wp.skipS | apply Wp.blockS | ((first | apply Wp.regS | apply Wp.condV | apply Wp.reg | apply Wp.condW | apply fin_ret); simp -implicitDefEqProofs (maxSteps := 2000000) (disch := first | exact tt_rfl rfl | omega | (simp only [go_sem] <;> omega) | fail) only [go_sem] <;> try with_reducible rfl) | apply Wp.block | apply Wp.exitS | apply Wp.retS | apply Wp.exit | apply Wp.ret | apply Wp.skip)

theorem yards1_ok (s c a n : Int) (h : YOk s c a n) : lim F 58 [iv n, iv s, iv c, iv a] = some (iv (clothV s c a n), []) := by
  have hx := h.x
  have hy := h.y
  have d1 : Int.tdiv (n * (1000 + s)) 1000 = n * (1000 + s) / 1000 := Int.tdiv_eq_ediv_of_nonneg hx.1
  have d2 : Int.tdiv (n * (1000 + s) / 1000 * (1000 - c)) 1000 = n * (1000 + s) / 1000 * (1000 - c) / 1000 := Int.tdiv_eq_ediv_of_nonneg hy.1
  obtain ⟨n0, n1, s0, s1, c0, c1, a0, a1⟩ := h
  unfold clothV
  refine lim_by (fn := a58) (k := 4) (res := [.tmp 8]) rfl rfl rfl (by simp -implicitDefEqProofs (maxSteps := 2000000) (disch := first | exact tt_rfl rfl | omega | (simp only [go_sem] <;> omega) | fail) only [go_sem]) ?_
  simp -implicitDefEqProofs (maxSteps := 2000000) (disch := first | exact tt_rfl rfl | omega | (simp only [go_sem] <;> omega) | fail) only [go_sem]
  repeat (first | apply Wp.seqA | apply Wp.skipS | apply Wp.blockS | ((first | apply Wp.regS | apply Wp.condV | apply Wp.reg | apply Wp.condW | apply fin_ret); simp -implicitDefEqProofs (maxSteps := 2000000) (disch := first | exact tt_rfl rfl | omega | (simp only [go_sem] <;> omega) | fail) only [go_sem, d1, d2] <;> try with_reducible rfl) | apply Wp.block | apply Wp.exitS | apply Wp.retS | apply Wp.exit | apply Wp.ret | apply Wp.skip)

theorem yards_main (w : WarpA) (hw : w.Ok) (l1 v0 v1 v2 v3 v4 v5 t0 t1 t2 t3 x1 x3 : Int) (b1 : 0 ≤ l1) (b2 : w.ll + l1 = w.lh)
    (m0 : Int.tmod v0 150 = w.sl) (m1 : Int.tmod v1 50 = x1) (m2 : Int.tmod v2 200 = w.cl) (m3 : Int.tmod v3 100 = x3) (s1 : w.sl + x1 = w.sh) (s3 : w.cl + x3 = w.ch) (s4 : 100 * v4 = w.wl) (s5 : w.wl + 50 * v5 = w.wh)
    (q0 : 0 ≤ v0 ∧ v0 ≤ 255) (q1 : 0 ≤ v1 ∧ v1 ≤ 255) (q2 : 0 ≤ v2 ∧ v2 ≤ 255) (q3 : 0 ≤ v3 ∧ v3 ≤ 255) (q4 : 0 ≤ v4 ∧ v4 ≤ 255) (q5 : 0 ≤ v5 ∧ v5 ≤ 255) (y1 : 0 ≤ x1 ∧ x1 ≤ 49) (y3 : 0 ≤ x3 ∧ x3 ≤ 99)
    (r0 : 0 ≤ t0 ∧ t0 ≤ 65535) (r1 : 0 ≤ t1 ∧ t1 ≤ 65535) (r2 : 0 ≤ t2 ∧ t2 ≤ 65535) (r3 : 0 ≤ t3 ∧ t3 ≤ 65535) :
    lim F 11 [.agg [.int .u32 w.ll, .int .u32 l1], .agg [.int .u8 v0, .int .u8 v1, .int .u8 v2, .int .u8 v3, .int .u8 v4, .int .u8 v5], .agg [.int .u16 t0, .int .u16 t1, .int .u16 t2, .int .u16 t3]] = some (.bool true, []) := by
  have kn := known_ok
  have sp1 := span_ok w.ll w.lh
  have sp2 := span_ok w.sl w.sh
  have sp3 := span_ok w.cl w.ch
  have sp4 := span_ok w.wl w.wh
  have h1 := Gives_ok w
  rw [show warpE w = 0 from if_pos hw, if_pos rfl, if_pos rfl] at h1
  have hs := hw
  obtain ⟨g1, g2, g3, g4⟩ := hs
  have tt : 0 ≤ t0 * t1 ∧ t0 * t1 ≤ 65535 * 65535 := ⟨Int.mul_nonneg r0.1 r1.1, Int.mul_le_mul r0.2 r1.2 r1.1 (by omega)⟩
  have i1 := inside_ok w.ll w.lh (t0 * t1) (by omega) (by omega) (by omega) tt.1
  have i2 := inside_ok w.sl w.sh t1 (by omega) (by omega) (by omega) r1.1
  have i3 := inside_ok w.cl w.ch t2 (by omega) (by omega) (by omega) r2.1
  have i4 := inside_ok w.wl w.wh t3 (by omega) (by omega) (by omega) r3.1
  have j2 := inside_ok w.sl w.sh t3 (by omega) (by omega) (by omega) r3.1
  have j3 := inside_ok w.cl w.ch t0 (by omega) (by omega) (by omega) r0.1
  have j4 := inside_ok w.wl w.wh t2 (by omega) (by omega) (by omega) r2.1
  have u1 := insideV_in (t0 * t1) (show w.ll ≤ w.lh by omega)
  have u2 := insideV_in t1 (show w.sl ≤ w.sh by omega)
  have u3 := insideV_in t2 (show w.cl ≤ w.ch by omega)
  have u4 := insideV_in t3 (show w.wl ≤ w.wh by omega)
  have z2 := insideV_in t3 (show w.sl ≤ w.sh by omega)
  have z3 := insideV_in t0 (show w.cl ≤ w.ch by omega)
  have z4 := insideV_in t2 (show w.wl ≤ w.wh by omega)
  generalize insideV w.ll w.lh (t0 * t1) = N1 at *
  generalize insideV w.sl w.sh t1 = S1 at *
  generalize insideV w.cl w.ch t2 = C1 at *
  generalize insideV w.wl w.wh t3 = A1 at *
  generalize insideV w.sl w.sh t3 = S2 at *
  generalize insideV w.cl w.ch t0 = C2 at *
  generalize insideV w.wl w.wh t2 = A2 at *
  have o1 : YOk S1 C1 A1 N1 := hw.y (by omega) (by omega) (by omega) (by omega) (by omega) (by omega) (by omega) (by omega)
  have k1 := yards1_ok _ _ _ _ o1
  have ol : YOk w.sl w.ch w.wh w.ll := hw.y (by omega) (by omega) (by omega) (by omega) (by omega) (by omega) (by omega) (by omega)
  have kl := yards1_ok _ _ _ _ ol
  have oh : YOk w.sh w.cl w.wl w.lh := hw.y (by omega) (by omega) (by omega) (by omega) (by omega) (by omega) (by omega) (by omega)
  have kh := yards1_ok _ _ _ _ oh
  have bl : w.low ≤ clothV S1 C1 A1 N1 := YOk.mono ol o1 (by omega) (by omega) (by omega) (by omega)
  have bh : clothV S1 C1 A1 N1 ≤ w.high := YOk.mono o1 oh (by omega) (by omega) (by omega) (by omega)
  change _ = some (iv w.low, []) at kl
  change _ = some (iv w.high, []) at kh
  have wb : ∀ n : Int, 0 ≤ n → n ≤ 10000000000 → YOk w.sl w.ch w.wh n := fun n a1 a2 => hw.y (by omega) (by omega) (by omega) (by omega) (by omega) (by omega) (by omega) (by omega)
  have ob := o1.bound
  have h2 := Need_ok w (clothV S1 C1 A1 N1)
  have mono := need_mono hw (clothV S1 C1 A1 N1)
  have fno : ∀ n : Nat, n < w.need (clothV S1 C1 A1 N1) → decide (clothV S1 C1 A1 N1 ≤ clothV w.sl w.ch w.wh n) = false := fun n hn => firstP_no hn
  have fyes : w.need (clothV S1 C1 A1 N1) < 10000000001 → decide (clothV S1 C1 A1 N1 ≤ clothV w.sl w.ch w.wh (w.need (clothV S1 C1 A1 N1))) = true := fun hn => firstP_yes hn
  have fle : w.need (clothV S1 C1 A1 N1) ≤ 10000000001 := firstP_le _ _
  have eN : needE w (clothV S1 C1 A1 N1) = if clothV S1 C1 A1 N1 ≤ 10000000000 then if w.need (clothV S1 C1 A1 N1) ≤ 10000000000 then 0 else 7 else 3 := by
    unfold needE
    rw [if_pos hw]
    by_cases hT : clothV S1 C1 A1 N1 ≤ 10000000000
    · rw [if_pos ⟨ob.1, hT⟩, if_pos hT]
    · rw [if_neg (by omega), if_neg hT]
  generalize needE w (clothV S1 C1 A1 N1) = ne at *
  generalize w.need (clothV S1 C1 A1 N1) = m at *
  generalize ht1 : clothV S1 C1 A1 N1 = T at *
  generalize w.low = lo at *
  generalize w.high = hi at *
  by_cases hT : T ≤ 10000000000
  · rw [if_pos hT] at eN
    by_cases hm : m ≤ 10000000000
    · rw [if_pos hm] at eN
      subst eN
      rw [if_pos rfl] at h2
      have e1 := fyes (by omega)
      rw [decide_eq_true_eq] at e1
      have om := wb m (by omega) (by omega)
      have o2 : YOk S2 C2 A2 m := hw.y (by omega) (by omega) (by omega) (by omega) (by omega) (by omega) (by omega) (by omega)
      have k2 := yards1_ok _ _ _ _ o2
      have b3 := YOk.mono om o2 (by omega) (by omega) (by omega) (by omega)
      have ge : T ≤ clothV S2 C2 A2 m := by omega
      generalize clothV S2 C2 A2 m = T2 at *
      by_cases h0 : m = 0
      · clear ol oh o1 wb ht1 om o2 mono fno fyes
        unfold WarpA.av at *
        refine lim_by (fn := a11) (k := 3) (res := [.tmp 6]) rfl rfl rfl (by simp -implicitDefEqProofs (maxSteps := 2000000) (disch := first | exact tt_rfl rfl | omega | (simp only [go_sem] <;> omega) | fail) only [go_sem]) ?_
        simp -implicitDefEqProofs (maxSteps := 2000000) (disch := first | exact tt_rfl rfl | omega | (simp only [go_sem] <;> omega) | fail) only [go_sem]
        repeat (first | apply Wp.seqA | apply Wp.skipS | apply Wp.blockS | ((first | apply Wp.regS | apply Wp.condV | apply Wp.reg | apply Wp.condW | apply fin_ret); simp -implicitDefEqProofs (maxSteps := 2000000) (disch := first | exact tt_rfl rfl | omega | (simp only [go_sem] <;> omega) | fail) only [go_sem, m0, m1, m2, m3, b2, s1, s3, s4, s5, sp1, sp2, sp3, sp4, h1, h2, i1, i2, i3, i4, j2, j3, j4, k1, k2, kl, kh, kn, show ¬ (10000000000 : Int) < T by omega, bl, bh, ge, gt_iff_lt, Int.not_lt.2 bl, Int.not_lt.2 bh, Int.not_lt.2 ge, bne_self_eq_false, beq_self_eq_true, show ¬ (m : Int) < 0 by omega, show ¬ (10000000000 : Int) < m by omega, eq_true (show (m : Int) = 0 by omega)] <;> try with_reducible rfl) | apply Wp.block | apply Wp.exitS | apply Wp.retS | apply Wp.exit | apply Wp.ret | apply Wp.skip)
      · have e2 := fno (m - 1) (by omega)
        rw [decide_eq_false_iff_not] at e2
        rw [show ((m - 1 : Nat) : Int) = (m : Int) - 1 by omega] at e2
        have k3 := yards1_ok _ _ _ _ (wb (m - 1) (by omega) (by omega))
        generalize clothV w.sl w.ch w.wh ((m : Int) - 1) = T3 at *
        clear ol oh o1 wb ht1 om o2 mono fno fyes
        unfold WarpA.av at *
        refine lim_by (fn := a11) (k := 3) (res := [.tmp 6]) rfl rfl rfl (by simp -implicitDefEqProofs (maxSteps := 2000000) (disch := first | exact tt_rfl rfl | omega | (simp only [go_sem] <;> omega) | fail) only [go_sem]) ?_
        simp -implicitDefEqProofs (maxSteps := 2000000) (disch := first | exact tt_rfl rfl | omega | (simp only [go_sem] <;> omega) | fail) only [go_sem]
        repeat (first | apply Wp.seqA | apply Wp.skipS | apply Wp.blockS | ((first | apply Wp.regS | apply Wp.condV | apply Wp.reg | apply Wp.condW | apply fin_ret); simp -implicitDefEqProofs (maxSteps := 2000000) (disch := first | exact tt_rfl rfl | omega | (simp only [go_sem] <;> omega) | fail) only [go_sem, m0, m1, m2, m3, b2, s1, s3, s4, s5, sp1, sp2, sp3, sp4, h1, h2, i1, i2, i3, i4, j2, j3, j4, k1, k2, k3, kl, kh, kn, show ¬ (10000000000 : Int) < T by omega, bl, bh, ge, gt_iff_lt, Int.not_lt.2 bl, Int.not_lt.2 bh, Int.not_lt.2 ge, bne_self_eq_false, beq_self_eq_true, show ¬ (m : Int) < 0 by omega, show ¬ (10000000000 : Int) < m by omega, show ¬ (m : Int) = 0 by omega, show T3 < T by omega] <;> try with_reducible rfl) | apply Wp.block | apply Wp.exitS | apply Wp.retS | apply Wp.exit | apply Wp.ret | apply Wp.skip)
    · rw [if_neg hm] at eN
      subst eN
      rw [if_neg (by omega)] at h2
      have e2 := fno 10000000000 (by omega)
      rw [decide_eq_false_iff_not, show ((10000000000 : Nat) : Int) = 10000000000 from rfl] at e2
      have k3 := yards1_ok _ _ _ _ (wb 10000000000 (by omega) (by omega))
      generalize clothV w.sl w.ch w.wh 10000000000 = T3 at *
      clear ol oh o1 wb ht1 mono fno fyes
      unfold WarpA.av at *
      refine lim_by (fn := a11) (k := 3) (res := [.tmp 6]) rfl rfl rfl (by simp -implicitDefEqProofs (maxSteps := 2000000) (disch := first | exact tt_rfl rfl | omega | (simp only [go_sem] <;> omega) | fail) only [go_sem]) ?_
      simp -implicitDefEqProofs (maxSteps := 2000000) (disch := first | exact tt_rfl rfl | omega | (simp only [go_sem] <;> omega) | fail) only [go_sem]
      repeat (first | apply Wp.seqA | apply Wp.skipS | apply Wp.blockS | ((first | apply Wp.regS | apply Wp.condV | apply Wp.reg | apply Wp.condW | apply fin_ret); simp -implicitDefEqProofs (maxSteps := 2000000) (disch := first | exact tt_rfl rfl | omega | (simp only [go_sem] <;> omega) | fail) only [go_sem, m0, m1, m2, m3, b2, s1, s3, s4, s5, sp1, sp2, sp3, sp4, h1, h2, i1, i2, i3, i4, k1, k3, kl, kh, kn, show ¬ (10000000000 : Int) < T by omega, bl, bh, gt_iff_lt, Int.not_lt.2 bl, Int.not_lt.2 bh, bne_self_eq_false, beq_self_eq_true, show T3 < T by omega] <;> try with_reducible rfl) | apply Wp.block | apply Wp.exitS | apply Wp.retS | apply Wp.exit | apply Wp.ret | apply Wp.skip)
  · rw [if_neg hT] at eN
    subst eN
    rw [if_neg (by omega)] at h2
    clear ol oh o1 wb ht1 mono fno fyes
    unfold WarpA.av at *
    refine lim_by (fn := a11) (k := 3) (res := [.tmp 6]) rfl rfl rfl (by simp -implicitDefEqProofs (maxSteps := 2000000) (disch := first | exact tt_rfl rfl | omega | (simp only [go_sem] <;> omega) | fail) only [go_sem]) ?_
    simp -implicitDefEqProofs (maxSteps := 2000000) (disch := first | exact tt_rfl rfl | omega | (simp only [go_sem] <;> omega) | fail) only [go_sem]
    repeat (first | apply Wp.seqA | apply Wp.skipS | apply Wp.blockS | ((first | apply Wp.regS | apply Wp.condV | apply Wp.reg | apply Wp.condW | apply fin_ret); simp -implicitDefEqProofs (maxSteps := 2000000) (disch := first | exact tt_rfl rfl | omega | (simp only [go_sem] <;> omega) | fail) only [go_sem, m0, m1, m2, m3, b2, s1, s3, s4, s5, sp1, sp2, sp3, sp4, h1, h2, i1, i2, i3, i4, k1, kl, kh, kn, show (10000000000 : Int) < T by omega, bl, bh, gt_iff_lt, Int.not_lt.2 bl, Int.not_lt.2 bh, bne_self_eq_false, beq_self_eq_true] <;> try with_reducible rfl) | apply Wp.block | apply Wp.exitS | apply Wp.retS | apply Wp.exit | apply Wp.ret | apply Wp.skip)

theorem arr2 {α : Type} (x : Arr α 2) : ∃ a b, x.1 = [a, b] := by
  obtain ⟨l, h⟩ := x
  match l, h with
  | [a, b], _ => exact ⟨a, b, rfl⟩
theorem arr3 {α : Type} (x : Arr α 3) : ∃ a b c, x.1 = [a, b, c] := by
  obtain ⟨l, h⟩ := x
  match l, h with
  | [a, b, c], _ => exact ⟨a, b, c, rfl⟩
theorem arr4 {α : Type} (x : Arr α 4) : ∃ a b c d, x.1 = [a, b, c, d] := by
  obtain ⟨l, h⟩ := x
  match l, h with
  | [a, b, c, d], _ => exact ⟨a, b, c, d, rfl⟩
theorem arr6 {α : Type} (x : Arr α 6) : ∃ a b c d e f, x.1 = [a, b, c, d, e, f] := by
  obtain ⟨l, h⟩ := x
  match l, h with
  | [a, b, c, d, e, f], _ => exact ⟨a, b, c, d, e, f, rfl⟩

theorem tmod_in {n m : Int} (h : 0 ≤ n) (hm : 0 < m) : 0 ≤ Int.tmod n m ∧ Int.tmod n m < m := by
  rw [Int.tmod_eq_emod_of_nonneg h]
  exact ⟨Int.emod_nonneg n (by omega), Int.emod_lt_of_pos n hm⟩

theorem beamYards_ok (x : Arr (Fin 4294967296) 2) (v : Arr (Fin 256) 6) (t : Arr (Fin 65536) 4) :
    lim F 11 [.agg (x.1.flatMap fun n => [.int .u32 (n.1 : Int)]), .agg (v.1.flatMap fun n => [.int .u8 (n.1 : Int)]), .agg (t.1.flatMap fun n => [.int .u16 (n.1 : Int)])] = some (.bool true, []) := by
  obtain ⟨l0, l1, ex⟩ := arr2 x
  obtain ⟨v0, v1, v2, v3, v4, v5, ev⟩ := arr6 v
  obtain ⟨t0, t1, t2, t3, et⟩ := arr4 t
  rw [ex, ev, et]
  simp only [List.flatMap_cons, List.flatMap_nil, List.append_nil, List.cons_append, List.nil_append]
  have a0 := l0.2
  have a1 := l1.2
  have p0 := v0.2
  have p1 := v1.2
  have p2 := v2.2
  have p3 := v3.2
  have p4 := v4.2
  have p5 := v5.2
  have q0 := t0.2
  have q1 := t1.2
  have q2 := t2.2
  have q3 := t3.2
  have c0 := tmod_in (n := (v0.1 : Int)) (m := 150) (by omega) (by omega)
  have c1 := tmod_in (n := (v1.1 : Int)) (m := 50) (by omega) (by omega)
  have c2 := tmod_in (n := (v2.1 : Int)) (m := 200) (by omega) (by omega)
  have c3 := tmod_in (n := (v3.1 : Int)) (m := 100) (by omega) (by omega)
  refine yards_main ⟨l0.1, l0.1 + l1.1, Int.tmod v0.1 150, Int.tmod v0.1 150 + Int.tmod v1.1 50, Int.tmod v2.1 200, Int.tmod v2.1 200 + Int.tmod v3.1 100, 100 * v4.1, 100 * v4.1 + 50 * v5.1⟩ ?_ _ _ _ _ _ _ _ _ _ _ _ (Int.tmod v1.1 50) (Int.tmod v3.1 100) ?_ rfl rfl rfl rfl rfl rfl rfl rfl rfl ?_ ?_ ?_ ?_ ?_ ?_ ?_ ?_ ?_ ?_ ?_ ?_
  · exact ⟨⟨by show (0 : Int) ≤ l0.1; omega, by show (l0.1 : Int) ≤ l0.1 + l1.1; omega, by show (l0.1 : Int) + l1.1 ≤ 10000000000; omega⟩, ⟨c0.1, by show Int.tmod v0.1 150 ≤ Int.tmod v0.1 150 + Int.tmod v1.1 50; omega, by show Int.tmod v0.1 150 + Int.tmod v1.1 50 ≤ 200; omega⟩,
      ⟨c2.1, by show Int.tmod v2.1 200 ≤ Int.tmod v2.1 200 + Int.tmod v3.1 100; omega, by show Int.tmod v2.1 200 + Int.tmod v3.1 100 ≤ 300; omega⟩, ⟨by show (0 : Int) ≤ 100 * v4.1; omega, by show (100 : Int) * v4.1 ≤ 100 * v4.1 + 50 * v5.1; omega, by show (100 : Int) * v4.1 + 50 * v5.1 ≤ 100000000; omega⟩⟩
  all_goals omega
end Go.Abs
